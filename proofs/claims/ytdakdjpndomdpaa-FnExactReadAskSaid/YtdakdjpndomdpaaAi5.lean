/- The abstract machine, part 5: each operation that calls no Go function does to the model's world what it does to the abstract heap (addresses, parts, slices, conversions, append). Nothing about the program stands here. -/
import Derived.Test.YtdakdjpndomdpaaAi4
set_option linter.unusedVariables false
set_option linter.unusedSimpArgs false
namespace Go.Ai
variable {P : Program} {W0 : World} {ι : Ren} {h : Heap} {w w' : World}

theorem add_off (c off n : Nat) : (⟨c, off, none⟩ : Addr).add n = ⟨c, off + n, none⟩ := by unfold Addr.add; split <;> simp_all

theorem fieldAddr_sound {s f : Nat} {x x' v : Value} (hv : fieldAddrV P s x f = some v) (r : R ι x x') (w : World) :
    ∃ v', (Instr.fieldAt s x' f).run P w = .ok v' w ∧ R ι v v' := by
  unfold fieldAddrV at hv
  split at hv
  · rename_i a off n b hf
    cases hv
    obtain ⟨c, hc, hs, rfl⟩ := r
    obtain ⟨fs, fl, hu, hfl, rfl, hsz, _⟩ := fld_info hf
    refine ⟨_, ?_, RS.toR ⟨c, hc, rfl, rfl⟩⟩
    simp [Instr.fieldAt, run_underlying hu, hfl, Instr.sureAddr, fieldPlace, run_sz hsz, add_off]
  · cases hv

theorem part_sound {cs : List Value} {cs' : Array Value} {t off n : Nat} {b : Bool} {v : Value} (ha : All2 (RS ι) cs cs'.toList) (hv : partV cs (off, n, b) = some v)
    (hsz : sz? P t = some n) (hb : agg? P t = some b) (w : World) : ∃ v', (part t cs' off).run P w = .ok v' w ∧ R ι v v' := by
  cases b with
  | true =>
    simp only [partV] at hv
    cases hl : rd cs off n with
    | none => rw [hl] at hv; cases hv
    | some l =>
      rw [hl] at hv; simp at hv; subst hv
      unfold rd at hl
      split at hl
      · cases hl
        refine ⟨.agg (cs'.extract off (off + n)), by simp [part, run_agg hb, run_sz hsz], ⟨_, rfl, ?_⟩⟩
        have := (ha.drop off).take n
        simp only [List.toList_toArray, Array.toList_extract, List.extract_eq_take_drop, Nat.add_sub_cancel_left]
        exact this
      · cases hl
  | false =>
    simp only [partV] at hv
    obtain ⟨y, hy, r⟩ := ha.get hv
    refine ⟨y, ?_, r.toR⟩
    simp only [Array.getElem?_toList] at hy
    simp [part, run_agg hb, hy]

theorem field_sound {s f : Nat} {x x' v : Value} (hv : fieldV P s x f = some v) (r : R ι x x') (w : World) :
    ∃ v', (Instr.field s x' f).run P w = .ok v' w ∧ R ι v v' := by
  unfold fieldV at hv
  split at hv
  · rename_i cs p hf
    obtain ⟨off, n, b⟩ := p
    obtain ⟨fs, fl, hu, hfl, rfl, hsz, hb⟩ := fld_info hf
    obtain ⟨cs', rfl, ha⟩ := r
    obtain ⟨v', h1, h2⟩ := part_sound ha hv hsz hb w
    exact ⟨v', by simp [Instr.field, run_underlying hu, hfl, asAgg, h1], h2⟩
  · cases hv

theorem indexAddr_sound {t : Nat} {x x' y y' v : Value} (hv : indexAddrV P t x y = some v) (r : R ι x x') (ry : R ι y y') (w : World) :
    ∃ v', (Instr.indexAt t x' y').run P w = .ok v' w ∧ R ι v v' := by
  unfold indexAddrV at hv
  split at hv
  · rename_i a len _ k i e sz _ he
    split at hv
    · rename_i hi
      cases hv
      obtain ⟨c, cap, off, hc, hs, hl, ho, _, rfl⟩ := r
      obtain rfl : y' = .int k i := ry
      obtain ⟨hu, inf, hinf, rfl, _⟩ := elt_info he
      have hpos : 0 < len := by omega
      have := ho (.inl hpos); subst this
      refine ⟨_, ?_, RS.toR ⟨c, hc, rfl, rfl⟩⟩
      have hsz : sz? P e = some inf.size := by simp [sz?, hinf]
      simp [Instr.indexAt, asIntOf, run_underlying hu, hi, run_sz hsz, add_off]
    · cases hv
  · cases hv

theorem index_sound {t : Nat} {x x' y y' v : Value} (hv : indexV P t x y = some v) (r : R ι x x') (ry : R ι y y') (w : World) :
    ∃ v', (Instr.index t x' y').run P w = .ok v' w ∧ R ι v v' := by
  unfold indexV at hv
  split at hv
  · rename_i s k i hcl
    obtain rfl : x' = .string s := r
    obtain rfl : y' = .int k i := ry
    have hu : P.underlying t = some .string := by unfold cls? at hcl; split at hcl <;> simp_all
    split at hv
    · rename_i h0
      split at hv
      · rename_i b hb
        cases hv
        exact ⟨.int .u8 b.toNat, by simp [Instr.index, asIntOf, run_underlying hu, h0, hb], rfl⟩
      · cases hv
    · cases hv
  · cases hv

theorem extract_sound {x x' v : Value} {i : Nat} (hv : extractV x i = some v) (r : R ι x x') (w : World) :
    ∃ v', (Instr.extract x' i).run P w = .ok v' w ∧ R ι v v' := by
  unfold extractV at hv
  split at hv
  · rename_i vs
    obtain ⟨vs', rfl, ha⟩ := r
    obtain ⟨y, hy, r⟩ := ha.get (by simpa using hv)
    simp only [Array.getElem?_toList] at hy
    exact ⟨y, by simp [Instr.extract, hy], r.toR⟩
  · cases hv

/-! ### Parts -/
theorem fill_sound {nt : Nat} {e : Env} {a : Act} (re : RE nt ι e a) {place : Nat → Option (Nat × Nat)} : ∀ (l : List (Nat × Operand)), (∀ p ∈ l, okOpd p.2 = true) →
    ∀ (cs cs' r : List Value), All2 (RS ι) cs cs' → fillL place e l cs = some r →
    ∃ r' : List Value, Instr.fill place cs'.toArray (l.map fun p => (p.1, a.eval p.2)) = some r'.toArray ∧ All2 (RS ι) r r'
  | [], _, cs, cs', r, ha, hf => by simp [fillL] at hf; subst hf; exact ⟨cs', by simp [Instr.fill], ha⟩
  | (i, x) :: l, hok, cs, cs', r, ha, hf => by
    simp only [fillL] at hf
    split at hf
    · rename_i off n vs hp hvs
      split at hf
      · rename_i hn
        split at hf
        · rename_i cs1 hw
          obtain ⟨vs', hcv, hav⟩ := cellsL_R hvs (re.op (hok (i, x) (by simp)))
          obtain ⟨hle, rfl⟩ := wrt_info hw
          have hl := hav.length
          have hl2 := ha.length
          have h1 : ((a.eval x).cells.zipIdx.foldl (fun cs (c, j) => cs.setIfInBounds (off + j) c) cs'.toArray) = (cs'.take off ++ vs' ++ cs'.drop (off + vs'.length)).toArray := by
            rw [hcv, Array.zipIdx_toArray, List.foldl_toArray]
            have key : ∀ (vs : List Value) (k : Nat) (acc : List Value), off + k + vs.length ≤ acc.length →
                ((vs.zipIdx k).foldl (fun (cs : Array Value) (p : Value × Nat) => cs.setIfInBounds (off + p.2) p.1) acc.toArray) = (acc.take (off + k) ++ vs ++ acc.drop (off + k + vs.length)).toArray := by
              intro vs
              induction vs with
              | nil => intro k acc _; simp
              | cons v vs ih =>
                intro k acc hacc
                simp only [List.length_cons] at hacc
                simp only [List.zipIdx_cons, List.foldl_cons, List.setIfInBounds_toArray]
                rw [ih (k + 1) _ (by simp; omega)]
                congr 1
                have e : acc.set (off + k) v = acc.take (off + k) ++ v :: acc.drop (off + k + 1) := by rw [List.set_eq_take_append_cons_drop, if_pos (by omega)]
                have e2 : (acc.take (off + k)).length = off + k := by rw [List.length_take]; omega
                rw [e]
                have e3 : (acc.take (off + k) ++ v :: acc.drop (off + k + 1)).take (off + (k + 1)) = acc.take (off + k) ++ [v] := by
                  rw [List.take_append, e2, List.take_of_length_le (by omega), show off + (k + 1) - (off + k) = 1 by omega]; simp
                have e4 : (acc.take (off + k) ++ v :: acc.drop (off + k + 1)).drop (off + (k + 1) + vs.length) = acc.drop (off + k + (vs.length + 1)) := by
                  rw [List.drop_append, e2, List.drop_of_length_le (by omega), show off + (k + 1) + vs.length - (off + k) = vs.length + 1 by omega, List.drop_succ_cons, List.drop_drop]
                  simp; congr 1; omega
                rw [e3, e4]; simp
            have := key vs' 0 cs' (by omega)
            simpa using this
          obtain ⟨r', hr1, hr2⟩ := fill_sound re l (fun p hp => hok p (by simp [hp])) _ (cs'.take off ++ vs' ++ cs'.drop (off + vs'.length)) r
            (((ha.take off).append hav).append (by rw [← hl]; exact ha.drop _)) hf
          refine ⟨r', ?_, hr2⟩
          simp only [List.map_cons, Instr.fill, hp]
          rw [if_neg (by rw [hcv]; simp; omega)]
          rw [h1]; exact hr1
        · cases hf
      · cases hf
    · cases hf

end Go.Ai
