/- Deep values, part 3: the remaining operations. Nothing about the program stands here. -/
import Derived.Test.YtdakdjpndomdpaaBi2
set_option linter.unusedVariables false
set_option linter.unusedSimpArgs false
namespace Go.Bi
open Go.Ai
variable {P : Program} {g : H2} {h : Heap}

theorem rawO_some {o : Option Value} {y : X} (hx : rawO o = some y) : ∃ v, o = some v ∧ y = .raw v := by
  cases o with
  | none => cases hx
  | some v => cases hx; exact ⟨v, rfl, rfl⟩
theorem indexAddr_sound2 {t : TypeId} {x i y : X} (o : Ok h g x) (hx : indexAddrX P t x i = some y) : indexAddrV P t (er x) (er i) = some (er y) ∧ Ok h g y := by
  unfold indexAddrX at hx
  split at hx
  · obtain ⟨v, h1, rfl⟩ := rawO_some hx; exact ⟨h1, .raw⟩
  · rename_i f z es kd ii
    split at hx
    · rename_i u sz b he
      split at hx
      · rename_i hc
        obtain ⟨rfl, hi0, hi⟩ := hc
        cases hx
        cases o with
        | sl r =>
          cases r with
          | l a c h1 h2 h3 h4 =>
            rcases h3 with ⟨_, rfl⟩ | ⟨b, off, w, k, cs, rfl, e2, e3, e4, e5, e7, e6⟩
            · simp at hi
            · have hmem : es.getD ii.toNat [] ∈ es := by
                rw [List.getD_eq_getElem?_getD, List.getElem?_eq_getElem hi]; exact List.getElem_mem hi
              have hlen := h2 _ hmem
              have hget : es[ii.toNat]? = some (es.getD ii.toNat []) := by
                rw [List.getD_eq_getElem?_getD, List.getElem?_eq_getElem hi]; rfl
              have hcell : ∀ (j : Nat) (t : T), (es.getD ii.toNat [])[j]? = some t → cs[off + ii.toNat * sz + j]? = some (f [ii.toNat, j]) := by
                intro j t ht
                obtain ⟨hj, _⟩ := List.getElem?_eq_some_iff.1 ht
                exact e6 _ _ hi (by omega)
              refine ⟨?_, ?_⟩
              · simp only [er, h1, indexAddrV, he, idxV]
                rw [if_pos ⟨hi0, by omega⟩]
              · rw [h1]
                refine .pr e2 e3 e4 ?_ hcell fun j t ht => h4 ii.toNat j t (by rw [hget]; exact ht)
                rcases Nat.eq_zero_or_pos sz with hz | hz
                · rw [hz]; simpa using e7
                · obtain ⟨hh, _⟩ := List.getElem?_eq_some_iff.1 (e6 ii.toNat 0 hi hz)
                  show off + ii.toNat * sz ≤ cs.length
                  omega
      · cases hx
    · cases hx
  · cases hx

theorem b_none {n d : Nat} : bound? n none d = some d := rfl
theorem bound_sound {len : Nat} {o : Option X} {d r : Nat} (hb : boundX len o d = some r) : bound? len (o.map er) d = some r ∧ (o = none → r = d) ∧ (o ≠ none → r ≤ len) := by
  unfold boundX at hb
  split at hb
  · cases hb; exact ⟨rfl, fun _ => rfl, fun hh => absurd rfl hh⟩
  · split at hb
    · rename_i hc; cases hb
      exact ⟨by simp [er, bound?, hc], fun hh => (by cases hh), fun _ => by omega⟩
    · cases hb
  · cases hb
theorem bound_le {len : Nat} {o : Option X} {d r : Nat} (hb : boundX len o d = some r) (hd : d ≤ len) : r ≤ len := by
  obtain ⟨_, h2, h3⟩ := bound_sound hb
  cases o with
  | none => rw [h2 rfl]; exact hd
  | some x => exact h3 (by simp)
theorem str_elt {t : TypeId} (hc : cls? P t = some .str) : elt? P t = none := by
  unfold cls? at hc; unfold elt?
  cases hu : P.underlying t with
  | none => rfl
  | some d => rw [hu] at hc; cases d <;> first | rfl | (simp at hc)
theorem slice_sound2 (s : S g h) {t : TypeId} {x y : X} {lo hi mx : Option X} (o : Ok h g x) (hx : sliceX P g t x lo hi mx = some y) : sliceV P h t (er x) (lo.map er) (hi.map er) (mx.map er) = some (er y) ∧ Ok h g y := by
  unfold sliceX at hx
  split at hx
  · cases hx
  · rename_i hmx
    have hmx' : mx = none := by cases mx <;> simp_all
    subst hmx'
    split at hx
    · rename_i len c
      split at hx
      · rename_i q he
        obtain ⟨u, z, b⟩ := q
        split at hx
        · rename_i hh hb1
          split at hx
          · rename_i l hb2
            cases hx
            refine ⟨?_, .raw⟩
            simp only [er, sliceV, he, Option.map_none, b_none, (bound_sound hb1).1, (bound_sound hb2).1]
            rfl
          · cases hx
        · cases hx
      · cases hx
    · rename_i a len c
      split at hx
      · rename_i u sz b k he hk
        split at hx
        · rename_i hz
          split at hx
          · rename_i hh hb1
            split at hx
            · rename_i l hb2
              cases hx
              refine ⟨?_, .raw⟩
              obtain ⟨h1, h2, h3⟩ := s.row _ _ hk
              simp only [er, sliceV, he, Option.map_none, b_none, (bound_sound hb1).1, (bound_sound hb2).1, h2]
              rw [if_neg (by simp), if_pos (.inr hz)]
            · cases hx
          · cases hx
        · cases hx
      · cases hx
    · rename_i st
      split at hx
      · rename_i hc
        split at hx
        · rename_i hh hb1
          split at hx
          · rename_i l hb2
            cases hx
            exact ⟨by simp only [er, sliceV, hc, str_elt hc, Option.map_none, (bound_sound hb1).1, (bound_sound hb2).1], .raw⟩
          · cases hx
        · cases hx
      · cases hx
    · rename_i f z es
      split at hx
      · rename_i u sz b he
        split at hx
        · rename_i hz
          subst hz
          split at hx
          · rename_i hh hb1
            split at hx
            · rename_i l hb2
              cases hx
              have hhle : hh ≤ es.length := bound_le hb1 (Nat.le_refl _)
              have hlle : l ≤ hh := bound_le hb2 (Nat.zero_le _)
              have hlen : ((es.drop l).take (hh - l)).length = hh - l := by simp; omega
              have hgets : ∀ i : Nat, i < hh - l → ((es.drop l).take (hh - l))[i]? = es[i + l]? := by
                intro i hi; rw [List.getElem?_take, if_pos hi, List.getElem?_drop, Nat.add_comm]
              cases o with
              | sl r =>
                cases r with
                | l a c h1 h2 h3 h4 =>
                  rcases h3 with ⟨rfl, rfl⟩ | ⟨b, off, w, k, cs, rfl, e2, e3, e4, e5, e7, e6⟩
                  · have hh0 : hh = 0 := by simpa using hhle
                    subst hh0
                    have hl0 : l = 0 := by omega
                    subst hl0
                    refine ⟨?_, ?_⟩
                    · simp only [er, h1, sliceV, he, Option.map_none, b_none, (bound_sound hb1).1, (bound_sound hb2).1]
                      simp [subA, h1, subV]
                    · refine .sl (.l none 0 (by simp [subA, h1, subV]) (by simp) (.inl ⟨rfl, by simp⟩) (by simp))
                  · refine ⟨?_, ?_⟩
                    · simp only [er, h1, sliceV, he, Option.map_none, b_none, (bound_sound hb1).1, (bound_sound hb2).1, e4]
                      rw [if_neg (by simp), if_pos (by cases w with | false => exact .inl rfl | true => exact .inr (e5 rfl))]
                      simp [subA, h1, subV]
                    · refine .sl (.l (some ⟨b, off + l * sz, none⟩) (hh - l) (by simp only [subA, h1, subV, hlen]) (fun e he => h2 e (List.mem_of_mem_drop (List.mem_of_mem_take he))) (.inr ⟨b, off + l * sz, w, k, cs, rfl, e2, e3, e4, e5, ?_, fun i j hi hj => ?_⟩) fun i j t ht => ?_)
                      · rcases Nat.eq_zero_or_pos l with hl0 | hl0
                        · subst hl0; simpa using e7
                        · rcases Nat.eq_zero_or_pos sz with hz0 | hz0
                          · subst hz0; simpa using e7
                          · obtain ⟨hh2, _⟩ := List.getElem?_eq_some_iff.1 (e6 (l - 1) (sz - 1) (by omega) (by omega))
                            have : l * sz = (l - 1) * sz + sz := by
                              rw [← Nat.succ_mul]; congr 1; omega
                            omega
                      · rw [hlen] at hi
                        have := e6 (i + l) j (by omega) hj
                        have e : off + l * sz + i * sz + j = off + (i + l) * sz + j := by rw [Nat.add_mul]; omega
                        rw [e, this]; rfl
                      · by_cases hi : i < hh - l
                        · rw [hgets i hi] at ht
                          exact h4 (i + l) j t ht
                        · rw [List.getElem?_eq_none (by omega)] at ht; cases ht
            · cases hx
          · cases hx
        · cases hx
      · cases hx
    · cases hx

theorem rd_flat {cs : List Value} {f : Adr} {z : Nat} : ∀ {es : List (List T)} {o k : Nat}, o ≤ cs.length → (∀ e ∈ es, e.length = z) → (∀ i j, i < es.length → j < z → cs[o + i * z + j]? = some (f [k + i, j])) →
    (∀ i j t, ((es[i]?).bind (·[j]?)) = some t → Rep h g (below f (k + i) j) t) → rd cs o (es.length * z) = some ((flatX f k es).map er) ∧ ∀ x ∈ flatX f k es, Ok h g x
  | [], o, k, h0, _, _, _ => by simp [rd, flatX, h0]
  | e :: r, o, k, h0, h1, h2, h3 => by
    have hz : e.length = z := h1 e (by simp)
    have r1 : rd cs o z = some ((mkL (under f k) 0 e).map er) := by
      rw [← hz]
      refine rd_mkL h0 (fun j t ht => ?_) (fun j t ht => ?_) (h := h) (g := g)
      · obtain ⟨hj, _⟩ := List.getElem?_eq_some_iff.1 ht
        have := h2 0 j (by simp) (by omega)
        rw [Nat.zero_add]; simpa [under] using this
      · have := h3 0 j t (by simpa using ht)
        rw [Nat.zero_add]; exact this
    have hoz : o + z ≤ cs.length := by
      unfold rd at r1; split at r1
      · assumption
      · cases r1
    obtain ⟨r2, r3⟩ := rd_flat (cs := cs) (f := f) (z := z) (es := r) (o := o + z) (k := k + 1) hoz (fun e he => h1 e (by simp [he])) (fun i j hi hj => by
      have := h2 (i + 1) j (by simpa using hi) hj
      rw [show o + z + i * z + j = o + (i + 1) * z + j by rw [Nat.add_mul]; omega, this, show k + (i + 1) = k + 1 + i by omega]) (fun i j t ht => by
      have := h3 (i + 1) j t (by simpa using ht)
      rw [show k + (i + 1) = k + 1 + i by omega] at this; exact this)
    refine ⟨?_, ?_⟩
    · rw [List.length_cons, show (r.length + 1) * z = z + r.length * z by rw [Nat.add_mul]; omega, rd_append r1 r2]
      simp [flatX]
    · intro x hx
      simp only [flatX, List.mem_append] at hx
      rcases hx with hx | hx
      · refine ok_mkL (k := 0) (fun j t ht => ?_) x hx
        have := h3 0 j t (by simpa using ht)
        rw [Nat.zero_add]; exact this
      · exact r3 x hx
theorem src_sound2 (s : S g h) {z m : Nat} {y : X} {l : List X} (o : Ok h g y) (hx : srcX g z y = some (m, l)) : srcV h z (er y) = some (m, l.map er) ∧ ∀ x ∈ l, Ok h g x := by
  unfold srcX at hx
  split at hx
  · cases hx; exact ⟨rfl, by simp⟩
  · rename_i a n c
    split at hx
    · rename_i k hk
      obtain ⟨h1, h2, h3⟩ := s.row _ _ hk
      cases hr : rdL k.cs a.off (n * z) with
      | none => rw [hr] at hx; cases hx
      | some l' =>
        rw [hr] at hx; cases hx
        obtain ⟨e1, e2⟩ := rd_sound hr
        exact ⟨by simp only [er, srcV, h2, e1]; rfl, fun x hx => h3 x (e2 x hx)⟩
    · cases hx
  · rename_i f z' es
    split at hx
    · rename_i hz
      subst hz
      cases hx
      cases o with
      | sl r =>
        cases r with
        | l a c h1 h2 h3 h4 =>
          rcases h3 with ⟨rfl, rfl⟩ | ⟨b, off, w, k, cs, rfl, e2, e3, e4, e5, e7, e6⟩
          · exact ⟨by simp only [er, h1]; rfl, by simp [flatX]⟩
          · obtain ⟨r1, r2⟩ := rd_flat (h := h) (g := g) (k := 0) (f := f) e7 h2 (fun i j hi hj => by rw [Nat.zero_add]; exact e6 i j hi hj) (fun i j t ht => by rw [Nat.zero_add]; exact h4 i j t ht)
            exact ⟨by simp only [er, h1, srcV, e4, r1]; rfl, r2⟩
    · cases hx
  · cases hx
theorem bytes_sound : ∀ {l : List X} {bs : List UInt8}, bytesX l = some bs → bytesL (l.map er) = some bs
  | [], bs, hb => by simpa [bytesX, bytesL] using hb
  | x :: l, bs, hb => by
    cases x with
    | raw v =>
      simp only [bytesX] at hb
      split at hb
      · rename_i b r h1 h2
        cases hb
        simp only [List.map_cons, er, bytesL, h1, bytes_sound h2]
      · cases hb
    | _ => cases hb
theorem conv_sound2 (s : S g h) {a d : TypeId} {x y : X} {g' : H2} (o : Ok h g x) (hx : convX P g a d x = some (y, g')) : ∃ h', convV P h a d (er x) = some (er y, h') ∧ S g' h' ∧ Ext g h g' h' ∧ Ok h' g' y := by
  unfold convX at hx
  split at hx
  · rename_i h1 h2; cases hx; exact ⟨h, by simp only [er, convV, h1, h2], s, Ext.refl, .raw⟩
  · rename_i h1 h2; cases hx; exact ⟨h, by simp only [er, convV, h1, h2], s, Ext.refl, .raw⟩
  · rename_i h1 h2
    split at hx
    · rename_i e b n l he hs
      split at hx
      · rename_i bs hc hb
        cases hx
        obtain ⟨e1, e2⟩ := src_sound2 s o hs
        refine ⟨h, ?_, s, Ext.refl, .raw⟩
        simp only [convV, h1, h2, he, e1, hc, bytes_sound hb, er]
      · cases hx
    · cases hx
  · rename_i b h1 h2
    split at hx
    · rename_i e he
      split at hx
      · rename_i hc
        split at hx
        · rename_i hb
          cases hx
          obtain ⟨q1, q2⟩ := s.push (z := 1) (cs := b.data.toList.map fun x => X.raw (.int .u8 x.toNat)) (fun x hx => by
            obtain ⟨v, _, rfl⟩ := List.mem_map.1 hx; exact .raw)
          refine ⟨_, ?_, q1, q2, .raw⟩
          simp only [er, convV, h1, h2, he, hc, if_pos hb, s.n]
          congr 3
          simp [List.map_map, Function.comp_def, er]
        · cases hx
      · cases hx
    · cases hx
  · cases hx

theorem append_sound2 (s : S g h) {t : TypeId} {x y r : X} {g' : H2} (ox : Ok h g x) (oy : Ok h g y) (hx : appendX P g t x y = some (r, g')) : ∃ h', appendV P h t (er x) (er y) = some (er r, h') ∧ S g' h' ∧ Ext g h g' h' ∧ Ok h' g' r := by
  unfold appendX at hx
  split at hx
  · rename_i a n c e sz by_ he
    split at hx
    · rename_i m news z hs hz
      obtain ⟨s1, s2⟩ := src_sound2 s oy hs
      split at hx
      · rename_i hc
        have hok := ok_cells s2 hc.2.2
        split at hx
        · rename_i hm
          cases hx
          refine ⟨h, ?_, s, Ext.refl, .raw⟩
          simp only [er, appendV, he, s1, hz]
          rw [if_pos ⟨hc.1, hc.2.1, hok⟩, if_pos hm]
        · rename_i hm
          split at hx
          · cases hx
            obtain ⟨q1, q2⟩ := s.push (z := sz + 1) s2
            refine ⟨_, ?_, q1, q2, .raw⟩
            simp only [er, appendV, he, s1, hz, s.n]
            rw [if_pos ⟨hc.1, hc.2.1, hok⟩, if_neg hm]
          · rename_i a
            split at hx
            · rename_i k hk
              obtain ⟨k1, k2, k3⟩ := s.row _ _ hk
              split at hx
              · rename_i hk4
                cases hr : rdL k.cs 0 (n * (sz + 1)) with
                | none => rw [hr] at hx; cases hx
                | some olds =>
                  rw [hr] at hx; cases hx
                  obtain ⟨e1, e2⟩ := rd_sound hr
                  obtain ⟨q1, q2⟩ := s.kill hk
                  obtain ⟨p1, p2⟩ := q1.push (z := sz + 1) (cs := olds ++ news) (fun x hx => by
                    rcases List.mem_append.1 hx with hx | hx
                    · exact (k3 x (e2 x hx)).mono q2
                    · exact (s2 x hx).mono q2)
                  refine ⟨_, ?_, p1, q2.trans p2, .raw⟩
                  simp only [er, appendV, he, s1, hz, k2]
                  rw [if_pos ⟨hc.1, hc.2.1, hok⟩, if_neg hm, if_pos ⟨trivial, hk4.1, hk4.2⟩, e1]
                  simp [s.n, H2.kill, Heap.kill]
              · cases hx
            · cases hx
      · cases hx
    · cases hx
  · cases hx
theorem rawL_sound : ∀ {xs : List X} {l : List Value}, rawL xs = some l → xs.map er = l
  | [], l, hl => by simp [rawL] at hl; simp [hl]
  | x :: xs, l, hl => by
    cases x with
    | raw v =>
      simp only [rawL] at hl
      cases hr : rawL xs with
      | none => rw [hr] at hl; cases hl
      | some r => rw [hr] at hl; cases hl; simp [er, rawL_sound hr]
    | _ => cases hl
theorem builtin_sound2 (s : S g h) {b : Builtin} {ts : List TypeId} {xs : List X} {y : X} {g' : H2} (o : ∀ x ∈ xs, Ok h g x) (hx : builtinX P g b ts xs = some (y, g')) :
    ∃ h', builtinV P h b ts (xs.map er) = some (er y, h') ∧ S g' h' ∧ Ext g h g' h' ∧ Ok h' g' y := by
  unfold builtinX at hx
  split at hx
  · split at hx
    · rename_i hc; cases hx; exact ⟨h, by simp only [List.map_cons, List.map_nil, er, builtinV, hc], s, Ext.refl, .raw⟩
    · cases hx
  · split at hx
    · rename_i hc; cases hx; exact ⟨h, by simp only [List.map_cons, List.map_nil, er, builtinV, hc], s, Ext.refl, .raw⟩
    · cases hx
  · split at hx
    · rename_i hc; cases hx
      obtain ⟨a, c, e⟩ := (o _ List.mem_cons_self).slV
      exact ⟨h, by simp only [List.map_cons, List.map_nil, er, e, builtinV, hc], s, Ext.refl, .raw⟩
    · cases hx
  · split at hx
    · rename_i hc
      obtain ⟨h', h1, h2⟩ := append_sound2 s (o _ (by simp)) (o _ (by simp)) hx
      exact ⟨h', by simp only [List.map_cons, List.map_nil, builtinV, hc, if_true, h1], h2⟩
    · cases hx
  · split at hx
    · rename_i l hl
      cases hm : minmaxV mxI l with
      | none => rw [hm] at hx; cases hx
      | some v => rw [hm] at hx; cases hx; exact ⟨h, by simp only [rawL_sound hl, builtinV, hm]; rfl, s, Ext.refl, .raw⟩
    · cases hx
  · split at hx
    · rename_i l hl
      cases hm : minmaxV mnI l with
      | none => rw [hm] at hx; cases hx
      | some v => rw [hm] at hx; cases hx; exact ⟨h, by simp only [rawL_sound hl, builtinV, hm]; rfl, s, Ext.refl, .raw⟩
    · cases hx
  · cases hx
theorem make_sound2 (s : S g h) {t : TypeId} {l c y : X} {g' : H2} (hx : makeSliceX P g t l c = some (y, g')) : ∃ h', makeSliceV P h t (er l) (er c) = some (er y, h') ∧ S g' h' ∧ Ext g h g' h' ∧ Ok h' g' y := by
  unfold makeSliceX at hx
  split at hx
  · rename_i l c e sz by_ he
    split at hx
    · rename_i z hz
      split at hx
      · rename_i hc
        cases hx
        obtain ⟨q1, q2⟩ := s.push (z := sz) (cs := (repL l.toNat z).map .raw) ok_raws
        refine ⟨_, ?_, q1, q2, .raw⟩
        simp only [er, makeSliceV, he, hz]
        rw [if_pos hc, map_er_raw, s.n]
      · cases hx
    · cases hx
  · cases hx
end Go.Bi
