/- The abstract machine, part 8: append, make, parts, and the builtin functions. Nothing about the program stands here. -/
import Derived.Test.YtdakdjpndomdpaaAi7
set_option linter.unusedVariables false
set_option linter.unusedSimpArgs false
namespace Go.Ai
variable {P : Program} {W0 : World} {ι : Ren} {h : Heap} {w w' : World}

theorem run_app_room (t u ty e e' : TypeId) (i : TypeInfo) (ht : P.underlying t = some (.slice e)) (hu : P.underlying u = some (.slice e')) (hi : P.info? e = some i)
    (b : Addr) (sLen sCap m c : Nat) (a' : Option Addr) (news : List Value) (hf : (Builtin.firstCells i.size m (.slice a' m c)).run P w = .ok news.toArray w) (hroom : sLen + m ≤ sCap)
    (hst : (storeCells (b.add (sLen * i.size)) news).run P w = .ok () w') :
    (Builtin.append_ #[t, u] ty #[.slice (some b) sLen sCap, .slice a' m c]).run P w = .ok (.slice (some b) (sLen + m) sCap) w' := by
  simp [Builtin.append_, run_underlying ht, run_underlying hu, sizeOf, typeInfo, hi, Builtin.lenOf, hroom, hf, hst]

theorem run_app_nil0 (t u ty e e' : TypeId) (i : TypeInfo) (ht : P.underlying t = some (.slice e)) (hu : P.underlying u = some (.slice e')) (hi : P.info? e = some i)
    (c : Nat) (a' : Option Addr) (hf : (Builtin.firstCells i.size 0 (.slice a' 0 c)).run P w = .ok #[] w) :
    (Builtin.append_ #[t, u] ty #[.slice none 0 0, .slice a' 0 c]).run P w = .ok (.slice none 0 0) w := by
  simp [Builtin.append_, run_underlying ht, run_underlying hu, sizeOf, typeInfo, hi, Builtin.lenOf, hf]

theorem run_app_grow (t u ty e e' : TypeId) (i : TypeInfo) (z : Value) (ht : P.underlying t = some (.slice e)) (hu : P.underlying u = some (.slice e')) (hi : P.info? e = some i) (hz : i.zero = some z)
    (b : Option Addr) (sLen sCap n c : Nat) (a' : Option Addr) (olds news : List Value)
    (hfo : (Builtin.firstCells i.size sLen (.slice b sLen sCap)).run P w.drew = .ok olds.toArray w.drew) (hf : (Builtin.firstCells i.size n (.slice a' n c)).run P w.drew = .ok news.toArray w.drew)
    (hg : sCap < sLen + n) (h63 : ((sLen + n : Nat) : Int) ≤ 9223372036854775807) (hfit : Builtin.nextslicecap (sLen + n) sCap * i.bytes ≤ 281474976710656) :
    (Builtin.append_ #[t, u] ty #[.slice b sLen sCap, .slice a' n c]).run P w =
      .ok (.slice (some ⟨w.heap.size, 0, none⟩) (sLen + n) (grownCap w (sLen + n) sCap e))
        (w.drew.alloc (.cells (olds.toArray ++ news.toArray ++ Builtin.zeroCells z.cells (grownCap w (sLen + n) sCap e - (sLen + n))) e)) := by
  have hn : ¬ (sLen + n ≤ sCap) := by omega
  have h63' : ¬ (9223372036854775807 < ((sLen : Int) + (n : Int))) := by omega
  have h48' : ¬ (281474976710656 < Builtin.nextslicecap (sLen + n) sCap * i.bytes) := by omega
  simp [Builtin.append_, run_underlying ht, run_underlying hu, sizeOf, typeInfo, zeroValue, hi, hz, Builtin.lenOf, hn, h63', h48', Question.forced, hf, hfo, newRow, grownCap]
  congr 2
  apply Array.ext'
  simp [List.append_assoc]

theorem first_sound {w : World} {sz n cap : Nat} {a' : Option Addr} {l' : List Value} (hl : l'.length = n * sz)
    (hc : (a' = none ∧ n = 0 ∧ l' = []) ∨ ∃ ad, a' = some ad ∧ ∀ (j : Nat) (v : Value), l'[j]? = some v → w.cell? (ad.add j) = some v) :
    (Builtin.firstCells sz n (.slice a' n cap)).run P w = .ok l'.toArray w := by
  rcases hc with ⟨rfl, rfl, rfl⟩ | ⟨ad, rfl, hcells⟩
  · simp [Builtin.firstCells]
  · exact run_firstCells_some w sz n ad n cap l' hl hcells

theorem append_sound (s : Sim P W0 ι h w) {t u ty : TypeId} {x x' y y' v : Value} {h' : Heap} (hv : appendV P h t x y = some (v, h')) (hu : cls? P u = some .sl)
    (rx : R ι x x') (ry : R ι y y') :
    ∃ ι' w' v', (Builtin.append_ #[t, u] ty #[x', y']).run P w = .ok v' w' ∧ ι.le ι' ∧ Sim P W0 ι' h' w' ∧ R ι' v v' := by
  unfold appendV at hv
  split at hv
  · rename_i a n _ e sz by_ he
    obtain ⟨ht, inf, hinf, hsz, hby⟩ := elt_info he
    obtain ⟨eu, hu'⟩ := cls_sl hu
    split at hv
    · rename_i m news z hsrc hz
      obtain ⟨inf2, zv, hinf2, hzv, hzc, hzp⟩ := zr_info hz
      rw [hinf] at hinf2; cases hinf2
      obtain ⟨a', cap', l', rfl, hl1, hl2, ha, hcase⟩ := src_sound s hsrc ry
      have hf : (Builtin.firstCells inf.size m (.slice a' m cap')).run P w = .ok l'.toArray w := by rw [hsz]; exact first_sound hl1 hcase
      have hfd : (Builtin.firstCells inf.size m (.slice a' m cap')).run P w.drew = .ok l'.toArray w.drew := by rw [hsz]; exact first_sound hl1 (by simpa using hcase)
      split at hv
      · rename_i hlim
        obtain ⟨hzl, hlim, hones⟩ := hlim
        have hlim2 : (n + m) * inf.bytes ≤ 140737488355328 := by
          rw [hby]
          have h1 : (n + m) * by_ ≤ (n + m) * (by_ + 1) := Nat.mul_le_mul_left _ (Nat.le_succ _)
          have h2 : most ≤ 140737488355328 := by decide
          omega
        have hlim3 : n + m ≤ 1099511627776 := by
          have h1 : (n + m) * 1 ≤ (n + m) * (by_ + 1) := Nat.mul_le_mul_left _ (by omega)
          have h2 : most = 1099511627776 := rfl
          omega
        split at hv
        · rename_i hm0
          subst hm0
          cases hv
          have hnil : l' = [] := by apply List.eq_nil_of_length_eq_zero; omega
          subst hnil
          cases a with
          | none =>
            obtain ⟨rfl, _, rfl⟩ := rx
            exact ⟨ι, w, _, run_app_nil0 t u ty e eu inf ht hu' hinf cap' a' hf, Ren.le_refl _, s, ⟨rfl, rfl, rfl⟩⟩
          | some a =>
            obtain ⟨c, cap, off, hc, hs, hl, ho, hN, rfl⟩ := rx
            refine ⟨ι, w, _, run_app_room t u ty e eu inf ht hu' hinf _ n cap 0 cap' a' [] hf (by omega) (by simp [storeCells]), Ren.le_refl _, s, RS.toR ⟨c, cap, off, hc, hs, by omega, ho, hN, rfl⟩⟩
        · rename_i hm0
          -- what a new row comes to
          have grown : ∀ (b : Option Addr) (sCap : Nat) (olds olds' : List Value) (h1 : Heap), Sim P W0 ι h1 w → h1.n = h.n → All2 (RS ι) olds olds' → olds'.length = n * inf.size →
              (Builtin.firstCells inf.size n (.slice b n sCap)).run P w.drew = .ok olds'.toArray w.drew → sCap < n + m →
              ∃ ι' w' v', (Builtin.append_ #[t, u] ty #[.slice b n sCap, .slice a' m cap']).run P w = .ok v' w' ∧ ι.le ι' ∧ Sim P W0 ι' (h1.push ⟨true, sz + 1, olds ++ news⟩) w' ∧ R ι' (.slice (some ⟨h.n, 0, none⟩) (n + m) (n + m)) v' := by
            intro b sCap olds olds' h1 s1 hn1 hao holen hfo hlt
            have hge := grownCap_ge w (n + m) sCap e
            have hrun := run_app_grow (P := P) t u ty e eu inf zv ht hu' hinf hzv b n sCap m cap' a' olds' l' hfo hfd hlt (by omega) (growslice_fits hlt hlim2)
            have s1d : Sim P W0 ι h1 w.drew := s1.heap_eq rfl
            obtain ⟨ι', g1, g2, g3, g4⟩ := s1d.newRow (hao.append ha) (Builtin.zeroCells zv.cells (grownCap w (n + m) sCap e - (n + m))).toList (sz + 1) e
            refine ⟨ι', _, _, hrun, g1, ?_, RS.toR ⟨w.heap.size, _, 0, by rw [← hn1]; exact g3, rfl, hge, fun _ => rfl, fun N z' hz' => ?_, rfl⟩⟩
            · have : (olds' ++ l' ++ (Builtin.zeroCells zv.cells (grownCap w (n + m) sCap e - (n + m))).toList).toArray = olds'.toArray ++ l'.toArray ++ Builtin.zeroCells zv.cells (grownCap w (n + m) sCap e - (n + m)) := by
                apply Array.ext'; simp
              rw [← this]; exact g2
            · rw [show w.drew.heap.size = w.heap.size from rfl] at g4
              rw [g4] at hz'; cases hz'
              have hz2 : zv.cells.size = sz + 1 := by rw [hzc]; simpa using hzl
              simp only [List.length_append, Array.length_toList, size_zeroCells, hz2, holen, hl1, hsz, ← Nat.add_mul]
              rw [Nat.zero_add]
              exact Nat.mul_le_mul_right _ (by omega)
          split at hv
          · cases hv
            obtain ⟨rfl, _, rfl⟩ := rx
            obtain ⟨ι', w', v', g1, g2, g3, g4⟩ := grown none 0 [] [] h s rfl .nil (by simp) (by simp [Builtin.firstCells]) (by omega)
            exact ⟨ι', w', v', g1, g2, by simpa using g3, by simpa using g4⟩
          · rename_i a
            split at hv
            · rename_i k hk
              split at hv
              · rename_i hkk
                obtain ⟨hkw, hksz, hoff⟩ := hkk
                cases hr : rd k.cs 0 (n * (sz + 1)) with
                | none => rw [hr] at hv; cases hv
                | some olds =>
                  rw [hr] at hv; simp at hv; obtain ⟨rfl, rfl⟩ := hv
                  obtain ⟨c, cap, off, hc, hs, hl, ho, hN, rfl⟩ := rx
                  have := ho (.inr hoff); rw [hoff] at this; subst this
                  obtain ⟨olds', ho1, ho2, ho3, ho4⟩ := s.stretch hk hc hr
                  obtain ⟨cs', ty0, fr, c1, c2, c3, c4⟩ := s.cell _ _ _ hk hc
                  obtain ⟨c5, c6⟩ := c4 hkw
                  by_cases hroom : n + m ≤ cap
                  · -- in its place
                    have hfit : n * (sz + 1) + l'.length ≤ cs'.size := by
                      have h1 := hN _ _ c5
                      rw [hksz] at h1
                      rw [hl1, ← Nat.add_mul]
                      have h2 : (n + m) * (sz + 1) ≤ cap * (sz + 1) := Nat.mul_le_mul_right _ hroom
                      omega
                    have hst := run_storeCells_cells (P := P) c (n * (sz + 1)) l' 0 w
                      (by intro j hj; have hlt : n * (sz + 1) + j < cs'.size := by omega
                          simp [World.cell?, c1, hlt])
                      (by intro j hj; have hlt : n * (sz + 1) + j < cs'.size := by omega
                          simpa [World.frozen?, c1] using fun hx => Nat.le_of_not_lt fun hy => c6 _ hlt ⟨hx, hy⟩) (ha.ones hones)
                    rw [Nat.add_zero] at hst
                    have hst' : (storeCells ((⟨c, 0, none⟩ : Addr).add (n * inf.size)) l').run P w = .ok () (w.setCells c (n * (sz + 1)) l') := by
                      rw [add_off, Nat.zero_add, hsz]; simpa using hst
                    have hat := setCells_at (c := c) (ty := ty0) (fr := fr) l' (n * (sz + 1)) w cs' c1 hfit
                    have hsize : (cs'.toList.take (n * (sz + 1)) ++ l' ++ cs'.toList.drop (n * (sz + 1) + l'.length)).toArray.size = cs'.size := by simp; omega
                    have hl3 := ha.length
                    have s2 := s.move (cs := olds ++ news) hk hkw hc (by rw [hsize]; exact c5) (by simp; omega) (by
                      intro j x hx
                      have e2 : min (n * (sz + 1)) cs'.size = n * (sz + 1) := by omega
                      simp only [List.getElem?_toArray, List.getElem?_append, List.length_append, List.length_take, List.getElem?_take, List.getElem?_drop, Array.length_toList, e2, ho2] at hx ⊢
                      by_cases hj : j < n * (sz + 1)
                      · simp only [if_pos hj, if_pos (show j < n * (sz + 1) + l'.length by omega)] at hx ⊢
                        obtain ⟨y, hy, r⟩ := ho3.get hx
                        have := ho4 j y hy
                        simp [World.cell?, c1] at this
                        exact ⟨y, by simpa using this, r⟩
                      · simp only [if_neg hj] at hx ⊢
                        obtain ⟨y, hy, r⟩ := ha.get hx
                        have := (List.getElem?_eq_some_iff.1 hy).1
                        simp only [if_pos (show j < n * (sz + 1) + l'.length by omega)]
                        exact ⟨y, hy, r⟩) (by rw [hsize]; exact c6) hat (fun x hx => setCells_ne hx _ _ _) (setCells_size _ _ _) (setCells_env _ _ _)
                    rw [hksz] at s2
                    refine ⟨_, _, _, run_app_room t u ty e eu inf ht hu' hinf ⟨c, 0, none⟩ n cap m cap' a' l' hf hroom hst', s.le_also c, s2, RS.toR ⟨c, cap, 0, by simp [Ren.also], rfl, hroom, fun _ => rfl, hN, rfl⟩⟩
                  · obtain ⟨ι', w', v', g1, g2, g3, g4⟩ := grown (some ⟨c, 0, none⟩) cap olds olds' (h.kill a.block) (s.kill _) rfl ho3 (by rw [hsz]; exact ho1)
                      (by rw [hsz]; exact run_firstCells_some w.drew (sz + 1) n ⟨c, 0, none⟩ n cap olds' ho1 fun j v hv => by rw [add_off]; exact ho4 j v hv) (by omega)
                    exact ⟨ι', w', v', g1, g2, g3, g4⟩
              · cases hv
            · cases hv
      · cases hv
    · cases hv
  · cases hv


/-! ### make, parts, builtin functions -/
theorem repL_at {z : List Value} {n : Nat} : (repL n z).length = n * z.length ∧ ∀ i, i < n * z.length → (repL n z)[i]? = z[i % z.length]? := by
  unfold repL
  induction n with
  | zero => exact ⟨by simp, fun i hi => by omega⟩
  | succ n ih =>
    rw [List.replicate_succ, List.flatten_cons]
    have hlen : (z ++ (List.replicate n z).flatten).length = (n + 1) * z.length := by rw [List.length_append, ih.1, Nat.succ_mul, Nat.add_comm]
    refine ⟨hlen, fun i hi => ?_⟩
    by_cases h : i < z.length
    · rw [List.getElem?_append_left h, Nat.mod_eq_of_lt h]
    · have hi' : i - z.length < n * z.length := by rw [Nat.add_mul, Nat.one_mul] at hi; omega
      rw [List.getElem?_append_right (by omega), ih.2 _ hi', ← Nat.mod_eq_sub_mod (by omega)]

theorem made_list {z : List Value} {n : Nat} (hz : 0 < z.length) : (Array.range (n * z.length)).map (z.toArray[· % z.toArray.size]!) = (repL n z).toArray := by
  apply Array.ext_getElem?
  intro i
  obtain ⟨h1, h2⟩ := repL_at (z := z) (n := n)
  simp only [List.getElem?_toArray]
  by_cases hi : i < n * z.length
  · rw [h2 i hi, Array.getElem?_map, Array.getElem?_range]
    simp only [hi, if_true, Option.map_some, List.size_toArray]
    have : i % z.length < z.length := Nat.mod_lt _ hz
    simp [this]
  · rw [List.getElem?_eq_none (by omega), Array.getElem?_eq_none (by simp; omega)]

theorem plain_rep {z : List Value} (hz : z.all plainS = true) (n : Nat) : All2 (RS ι) (repL n z) (repL n z) := by
  unfold repL
  induction n with
  | zero => exact .nil
  | succ n ih => rw [List.replicate_succ, List.flatten_cons]; exact (plain_all hz).append ih

theorem makeSlice_sound (s : Sim P W0 ι h w) {t : TypeId} {x x' y y' v : Value} {h' : Heap} (hv : makeSliceV P h t x y = some (v, h')) (rx : R ι x x') (ry : R ι y y') :
    ∃ ι' w' v', (Instr.makeSlice t x' y').run P w = .ok v' w' ∧ ι.le ι' ∧ Sim P W0 ι' h' w' ∧ R ι' v v' := by
  unfold makeSliceV at hv
  split at hv
  · rename_i l c e sz by_ he
    obtain rfl := (show x' = _ from rx); obtain rfl := (show y' = _ from ry)
    split at hv
    · rename_i z hz
      split at hv
      · rename_i hh
        obtain ⟨h1, h2, rfl, h3, h4⟩ := hh
        cases hv
        obtain ⟨ht, inf, hinf, hsz, hby⟩ := elt_info he
        obtain ⟨inf2, zv, hinf2, hzv, hzc, hzp⟩ := zr_info hz
        rw [hinf] at hinf2; cases hinf2
        obtain ⟨n, rfl⟩ := Int.eq_ofNat_of_zero_le h3
        simp only [Int.toNat_natCast] at h4 ⊢
        have hm : most = 1099511627776 := rfl
        have hn : n * 1 ≤ n * (by_ + 1) := Nat.mul_le_mul_left _ (by omega)
        have hb : n * by_ ≤ n * (by_ + 1) := Nat.mul_le_mul_left _ (by omega)
        have hbi : (by_ : Int) * n = ((n * by_ : Nat) : Int) := by rw [Nat.mul_comm]; simp
        have hrun := run_make (P := P) w t e inf zv ht hinf hzv .i64 .i64 n n (by omega) (by omega) (by rw [hby, hbi]; omega) (by omega)
        have hmade : madeCells zv.cells (n * inf.size) = (repL n z).toArray := by
          rw [hzc, hsz, ← h1]; exact made_list (by omega)
        simp only [Int.toNat_natCast] at hrun
        rw [hmade] at hrun
        obtain ⟨ι', g1, g2, g3, g4⟩ := s.newRow (plain_rep (ι := ι) hzp n) [] sz e
        rw [List.append_nil] at g2 g4
        refine ⟨ι', _, _, hrun, g1, g2, RS.toR ⟨w.heap.size, n, 0, g3, rfl, by omega, fun _ => rfl, fun N z' hz' => ?_, rfl⟩⟩
        rw [g4] at hz'; cases hz'
        rw [(repL_at (z := z) (n := n)).1, h1]; omega
      · cases hv
    · cases hv
  · cases hv

theorem build_sound {nt : Nat} {e : Env} {a : Act} (re : RE nt ι e a) {t : TypeId} {parts : Array (Nat × Operand)} (hok : ∀ p ∈ parts.toList, okOpd p.2 = true) {z l : List Value}
    (hz : zr? P t = some z) (hf : fillL (fun i => (fld? P t i).map fun p => (p.1, p.2.1)) e parts.toList z = some l) (w : World) (hst0 : bldOk P t = true) :
    ∃ l' : List Value, (Instr.build t (parts.map fun (i, x) => (i, a.eval x))).run P w = .ok (.agg l'.toArray) w ∧ All2 (RS ι) l l' := by
  obtain ⟨zv, hzr, hzc⟩ := run_zr hz w
  obtain ⟨_, _, _, _, _, hzp⟩ := zr_info hz
  obtain ⟨fs, hu, hfs⟩ : ∃ fs, P.underlying t = some (.struct fs) ∧ ∀ f ∈ fs.toList, ∃ i, P.info? f.type = some i ∧ (agg? P f.type).isSome = true := by
    unfold bldOk at hst0
    split at hst0
    · rename_i fs hu
      refine ⟨fs, hu, fun f hf => ?_⟩
      have := (List.all_eq_true.1 hst0) f hf
      rw [Bool.and_eq_true] at this
      obtain ⟨i, hi⟩ := Option.isSome_iff_exists.1 this.1
      exact ⟨i, hi, this.2⟩
    · cases hst0
  -- the places of the fields
  let places : Array (Nat × Nat) := fs.map fun f => (f.offset, P.cellsOf f.type)
  have hp : (fs.mapM fun f => do pure (f.offset, ← sizeOf f.type) : Sem (Array (Nat × Nat))).run P w = .ok places w := by
    have key : ∀ (l : List Field), (∀ f ∈ l, ∃ i, P.info? f.type = some i ∧ (agg? P f.type).isSome = true) → (l.mapM (m := Sem) fun f => do pure (f.offset, ← sizeOf f.type)).run P w = .ok (l.map fun f => (f.offset, P.cellsOf f.type)) w := by
      intro l hl
      induction l with
      | nil => simp
      | cons f l ih =>
        obtain ⟨i, hi, _⟩ := hl f (by simp)
        have ih' := ih fun g hg => hl g (by simp [hg])
        rw [List.mapM_cons]
        simp [sizeOf, typeInfo, hi, Program.cellsOf] at ih' ⊢
        rw [ih']; simp [Program.cellsOf]
    have hk := key fs.toList hfs
    rw [Array.mapM_eq_mapM_toList]
    simp only [Sem.run_map, hk, Result.andThen_ok]
    congr 1
    apply Array.ext'
    simp [places]
  have hpl : (fun i => (fld? P t i).map fun p => (p.1, p.2.1)) = (places[·]?) := by
    funext i
    simp only [places, Array.getElem?_map, fld?, hu]
    cases hfi : fs[i]? with
    | none => rfl
    | some f =>
      obtain ⟨inf, hinf, hag⟩ := hfs f (Array.mem_toList_iff.2 (Array.mem_of_getElem? hfi))
      obtain ⟨b, hb⟩ := Option.isSome_iff_exists.1 hag
      simp [sz?, hinf, hb, Program.cellsOf]
  rw [hpl] at hf
  obtain ⟨l', h1, h2⟩ := fill_sound re parts.toList hok z z l (plain_all hzp) hf
  refine ⟨l', ?_, h2⟩
  have hmap : (parts.map fun (i, x) => (i, a.eval x)).toList = parts.toList.map fun p => (p.1, a.eval p.2) := by simp
  simp only [Instr.build, Sem.run_bind, hzr, Result.andThen_ok, run_underlying hu, hp, hzc, hmap, h1]
  rfl

end Go.Ai
