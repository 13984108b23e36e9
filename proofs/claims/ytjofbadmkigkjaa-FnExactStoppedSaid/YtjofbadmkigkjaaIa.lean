/- Both sides of MergesOk. -/
import Derived.Test.YtjofbadmkigkjaaHa
import Derived.Test.YtjofbadmkigkjaaDb
set_option linter.unusedSimpArgs false
set_option linter.unusedVariables false
set_option maxRecDepth 20000
namespace Go.Bi
open Go.Proofs
open Go.Ai (wrap_i64 wrap_u64 wrap_u8)
variable {W0 : World} {P : Program}
set_option maxHeartbeats 4000000
instance : DecidableEq LMerge := fun x y => match x, y with
  | ⟨a, b⟩, ⟨c, d⟩ => if h : a = c ∧ b = d then isTrue (by rw [h.1, h.2]) else isFalse (fun e => h (by cases e; exact ⟨rfl, rfl⟩))
theorem LMerge.eq_iff {x y : LMerge} : x = y ↔ x.a = y.a ∧ x.b = y.b := by
  cases x; cases y; simp
theorem eq_merge {t : TypeId} {x y : LMerge} (hT : Go.Ai.intS? P t = some 2) : binX P .eql t (.st [.raw (.int .i64 x.a), .raw (.int .i64 x.b)]) (.st [.raw (.int .i64 y.a), .raw (.int .i64 y.b)]) = some (.raw (.bool (decide (x = y)))) := by
  rw [eq_st2 hT]
  congr 3
  rw [Bool.and_true]
  by_cases h : x = y
  · rw [decide_eq_true h, h]; simp
  · rw [decide_eq_false h]
    rw [LMerge.eq_iff] at h
    by_cases h1 : x.a = y.a
    · have h2 : ¬ x.b = y.b := fun e => h ⟨h1, e⟩
      simp [h2]
    · simp [h1]
def latM (l : List Int) (i : Nat) : Int := l.getD i 0
theorem get_M {l : List Int} {i : Nat} (h : i < l.length) : (l.map cI)[i]? = some (.raw (.int .i64 (latM l i))) := by
  rw [List.getElem?_map, List.getElem?_eq_getElem h, latM, List.getD_eq_getElem?_getD, List.getElem?_eq_getElem h]; rfl
/-! ### Plain -/
def szOne (out : List Int) (t : Int) : Int := if t < 256 then 1 else latM out (t - 256).toNat
def mAt (l : List LMerge) (i : Nat) : LMerge := l.getD i default
def outs (l : List LMerge) : Nat → List Int
  | 0 => []
  | i + 1 => outs l i ++ [szOne (outs l i) (mAt l i).a + szOne (outs l i) (mAt l i).b]
theorem outs_len {l : List LMerge} : ∀ {i : Nat}, (outs l i).length = i
  | 0 => rfl
  | i + 1 => by rw [outs, List.length_append, outs_len]; rfl
def tokAt (l : List LMerge) (i : Nat) : Bool := inI (mAt l i).a 0 (255 + (i : Int)) && inI (mAt l i).b 0 (255 + (i : Int))
def nAt (l : List LMerge) (i : Nat) : Int := szOne (outs l i) (mAt l i).a + szOne (outs l i) (mAt l i).b
def stepOk (l : List LMerge) (i : Nat) : Bool := tokAt l i && decide (nAt l i ≤ 64)
def dupAt (l : List LMerge) (i : Nat) : Bool := decide (mAt l i ∈ l.take i)
def mergesB (l : List LMerge) : Bool := decide (l.length ≤ 16) && (List.range l.length).all fun i => stepOk l i && !dupAt l i
theorem mergesB_bad {l : List LMerge} {i : Nat} (hi : i < l.length) (h : (stepOk l i && !dupAt l i) = false) : mergesB l = false := by
  unfold mergesB
  rw [Bool.and_eq_false_iff]; right
  rw [List.all_eq_false]
  exact ⟨i, List.mem_range.2 hi, by rw [h]; simp⟩
theorem mergesB_ok {l : List LMerge} (h0 : l.length ≤ 16) (h : ∀ i, i < l.length → (stepOk l i && !dupAt l i) = true) : mergesB l = true := by
  unfold mergesB
  simp only [h0, decide_true, Bool.true_and, List.all_eq_true]
  intro i hi; exact h i (List.mem_range.1 hi)
theorem mergesB_len {l : List LMerge} (h : ¬ l.length ≤ 16) : mergesB l = false := by unfold mergesB; rw [decide_eq_false h]; rfl
theorem outs_rng {l : List LMerge} : ∀ {i : Nat}, (∀ j, j < i → stepOk l j = true) → ∀ k, k < i → 1 ≤ latM (outs l i) k ∧ latM (outs l i) k ≤ 64
  | 0, _, k, hk => by omega
  | i + 1, h, k, hk => by
    have ih := outs_rng (l := l) (i := i) fun j hj => h j (by omega)
    have hs := h i (by omega)
    unfold stepOk tokAt at hs
    simp only [Bool.and_eq_true, decide_eq_true_eq] at hs
    obtain ⟨⟨ha, hb⟩, hn⟩ := hs
    have ha := inI_t0 ha
    have hb := inI_t0 hb
    have one : ∀ t : Int, 0 ≤ t ∧ t ≤ 255 + (i : Int) → 1 ≤ szOne (outs l i) t := fun t ht => by
      unfold szOne; split
      · omega
      · exact (ih _ (by omega)).1
    have h1 := one _ ha
    have h2 := one _ hb
    rw [outs]
    unfold latM
    by_cases hki : k < i
    · rw [List.getD_eq_getElem?_getD, List.getElem?_append_left (by rw [outs_len]; exact hki), ← List.getD_eq_getElem?_getD]
      exact ih k hki
    · obtain rfl : k = i := by omega
      rw [List.getD_eq_getElem?_getD, List.getElem?_append_right (by rw [outs_len]; exact Nat.le_refl _), outs_len, Nat.sub_self]
      unfold nAt at hn
      simp only [List.getElem?_cons_zero, Option.getD_some]
      omega
where
  inI_t0 {x a b : Int} (h : inI x a b = true) : a ≤ x ∧ x ≤ b := by simpa [inI] using h
theorem inI_tt {x a b : Int} (h : inI x a b = true) : a ≤ x ∧ x ≤ b := by simpa [inI] using h
theorem one_rng {l : List LMerge} {i : Nat} {t : Int} (h : ∀ j, j < i → stepOk l j = true) (ht : 0 ≤ t ∧ t ≤ 255 + (i : Int)) : 1 ≤ szOne (outs l i) t ∧ szOne (outs l i) t ≤ 64 := by
  unfold szOne; split
  · omega
  · exact outs_rng h _ (by omega)
/-! ### Rows of merges -/
theorem indexM_ok {f : Adr} {F : Nat → Adr} {l : List LMerge} {m : LMerge} {g : H2} (hl : l.length ≤ 1048576) : PW Try.prog W0 147 [.sl f 2 (rMergeS l), .st (xMerge F m)] g (fun y => ∃ k : Int, y = .raw (.int .i64 k) ∧ (0 ≤ k ↔ m ∈ l)) := by
  have hT : Go.Ai.intS? Try.prog 150 = some 2 := by kernel_rfl
  refine PW.scalar ?_
  refine start (P := Try.prog) [[0, 1], [0, 3], [0, 3, 7, 8], [0, 3, 7, 8], [0, 3, 5, 7, 8], [5], [0, 3, 7, 8], []] (by kernel_rfl) Try.func147 rfl (by decide) (by decide +kernel) (rs := [.tmp 4]) rfl rfl (Nat.le_of_ble_eq_true rfl) ?_
  intro wf
  repeat (first | rw [kz_o] | rw [kz_r0] | simp -dsimp -implicitDefEqProofs only [go_sem, Nat.reduceBEq, Nat.reduceAdd, Nat.reduceLeDiff, Nat.reduceMul, Int.reduceLE, Int.reduceLT, Int.reduceBEq])
  refine lz_keep [0, 3, 7] (fun s e h' => ∃ i : Nat, h' = g.push ⟨2, xMerge F m⟩ ∧ look e 8 .mk = .raw (.int .i64 (i : Nat)) ∧ s + i = l.length ∧ ∀ j, j < i → mAt l j ≠ m) l.length ?_ ?_
  · exact ⟨0, rfl, by simp -dsimp -implicitDefEqProofs only [go_sem, Nat.reduceBEq, Nat.reduceAdd, Nat.reduceLeDiff, Nat.reduceMul, Int.reduceLE, Int.reduceLT, Int.reduceBEq], by omega, fun j hj => by omega⟩
  · rintro s e h' hks ⟨i, rfl, e8, hsi, hpre⟩
    simp -dsimp -implicitDefEqProofs only [go_sem, Nat.reduceBEq, Nat.reduceAdd, Nat.reduceLeDiff, Nat.reduceMul, Int.reduceLE, Int.reduceLT, Int.reduceBEq] at hks
    by_cases h1 : (i : Int) < (l.length : Int)
    · have hi : i < l.length := by omega
      have hE := eq_merge (x := m) (y := l.getD i default) hT
      repeat (first | rw [kz_o] | rw [kz_r0] | simp -dsimp -implicitDefEqProofs only [go_sem, Nat.reduceBEq, Nat.reduceAdd, Nat.reduceLeDiff, Nat.reduceMul, Int.reduceLE, Int.reduceLT, Int.reduceBEq, hks, e8, h1])
      refine dq_intro [(0, []), (1, []), (2, []), (3, []), (4, []), (5, [])] (by kernel_rfl) ?_
      by_cases hm : m = l.getD i default
      · repeat (first | rw [kz_o] | rw [kz_r0] | simp -dsimp -implicitDefEqProofs only [go_sem, Nat.reduceBEq, Nat.reduceAdd, Nat.reduceLeDiff, Nat.reduceMul, Int.reduceLE, Int.reduceLT, Int.reduceBEq, hks, e8, h1, hi, hoo, hE, decide_eq_true hm])
        refine ⟨le_push (H2.le.refl _), ⟨_, rfl⟩, _, rfl, ⟨fun _ => by rw [hm]; exact getD_mem hi, fun _ => by omega⟩⟩
      · repeat (first | rw [kz_o] | rw [kz_r0] | simp -dsimp -implicitDefEqProofs only [go_sem, Nat.reduceBEq, Nat.reduceAdd, Nat.reduceLeDiff, Nat.reduceMul, Int.reduceLE, Int.reduceLT, Int.reduceBEq, hks, e8, h1, hi, hoo, hE, decide_eq_false hm, wrap_succ hi (by omega)])
        refine nx_keep (s - 1) (by omega) (by simp -dsimp -implicitDefEqProofs only [go_sem, Nat.reduceBEq, Nat.reduceAdd, Nat.reduceLeDiff, Nat.reduceMul, Int.reduceLE, Int.reduceLT, Int.reduceBEq, hks]) ⟨i + 1, rfl, by simp -dsimp -implicitDefEqProofs only [go_sem, Nat.reduceBEq, Nat.reduceAdd, Nat.reduceLeDiff, Nat.reduceMul, Int.reduceLE, Int.reduceLT, Int.reduceBEq], by omega, fun j hj => ?_⟩
        by_cases hji : j = i
        · subst hji; exact fun e => hm e.symm
        · exact hpre j (by omega)
    · repeat (first | rw [kz_o] | rw [kz_r0] | simp -dsimp -implicitDefEqProofs only [go_sem, Nat.reduceBEq, Nat.reduceAdd, Nat.reduceLeDiff, Nat.reduceMul, Int.reduceLE, Int.reduceLT, Int.reduceBEq, hks, e8, h1])
      refine ⟨le_push (H2.le.refl _), ⟨_, rfl⟩, _, rfl, by
        refine ⟨fun h => absurd h (by decide), fun hm => ?_⟩
        obtain ⟨j, hj, e⟩ := List.getElem_of_mem hm
        refine absurd ?_ (hpre j (by omega))
        rw [mAt, List.getD_eq_getElem?_getD, List.getElem?_eq_getElem hj]; exact e⟩
theorem containsM_ok {f : Adr} {F : Nat → Adr} {l : List LMerge} {m : LMerge} {g : H2} (hl : l.length ≤ 1048576) : PW Try.prog W0 140 [.sl f 2 (rMergeS l), .st (xMerge F m)] g (fun y => y = .raw (.bool (decide (m ∈ l)))) := by
  refine PW.scalar ?_
  refine start (P := Try.prog) [[0, 1], [0, 3]] (by kernel_rfl) Try.func140 rfl (by decide) (by decide +kernel) (rs := [.tmp 4]) rfl rfl (Nat.le_of_ble_eq_true rfl) ?_
  intro wf
  repeat (first | rw [kz_o] | rw [kz_r0] | simp -dsimp -implicitDefEqProofs only [go_sem, Nat.reduceBEq, Nat.reduceAdd, Nat.reduceLeDiff, Nat.reduceMul, Int.reduceLE, Int.reduceLT, Int.reduceBEq])
  refine pw_intro (indexM_ok (F := F) hl) ?_
  rintro _ n hn' ⟨k, rfl, hk⟩
  have hd : decide (0 ≤ k) = decide (m ∈ l) := decide_eq_decide.2 hk
  repeat (first | rw [kz_o] | rw [kz_r0] | simp -dsimp -implicitDefEqProofs only [go_sem, Nat.reduceBEq, Nat.reduceAdd, Nat.reduceLeDiff, Nat.reduceMul, Int.reduceLE, Int.reduceLT, Int.reduceBEq, ge_iff_le, hd])
  exact ⟨le_up (le_push (H2.le.refl _)) hn', ⟨_, rfl⟩, rfl⟩
theorem isToken_ok {x k : Int} {h : H2} (hk : 0 ≤ k ∧ k ≤ 1048576) : WC2 Try.prog W0 149 [.raw (.int .i64 x), .raw (.int .i64 k)] h (fun v h' => v = .raw (.bool (inI x 0 (255 + k))) ∧ h' = h) := by
  refine start (P := Try.prog) [[0, 1], [0, 1]] (by kernel_rfl) Try.func149 rfl (by decide) (by decide +kernel) (rs := [.tmp 4]) rfl rfl (Nat.le_of_ble_eq_true rfl) ?_
  intro wf
  have w : IntKind.i64.wrap (255 + k) = 255 + k := by rw [wrap_i64] <;> omega
  repeat (first | rw [kz_o] | rw [kz_r0] | simp -dsimp -implicitDefEqProofs only [go_sem, Nat.reduceBEq, Nat.reduceAdd, Nat.reduceLeDiff, Nat.reduceMul, Int.reduceLE, Int.reduceLT, Int.reduceBEq, w])
  refine wz_intro in_ok ?_
  rintro _ h' ⟨rfl, rfl⟩
  repeat (first | rw [kz_o] | rw [kz_r0] | simp -dsimp -implicitDefEqProofs only [go_sem, Nat.reduceBEq, Nat.reduceAdd, Nat.reduceLeDiff, Nat.reduceMul, Int.reduceLE, Int.reduceLT, Int.reduceBEq])
  exact ⟨rfl, rfl⟩
theorem sizesOf1_ok {l : List LMerge} {i b N : Nat} {v : X} {t : Int} {g : H2} (hb : hg g b .mk = some ⟨1, [v]⟩) (ho : OwnI N g v (outs l i)) (ht : 0 ≤ t ∧ t ≤ 255 + (i : Int)) (hi : i ≤ 1048576) : WC2 Try.prog W0 148 [.raw (.int .i64 t), .raw (.pointer (some ⟨b, 0, none⟩))] g (fun y g' => y = .raw (.int .i64 (szOne (outs l i) t)) ∧ g' = g) := by
  refine start (P := Try.prog) [[0, 1], [0, 1], [], [0, 1]] (by kernel_rfl) Try.func148 rfl (by decide) (by decide +kernel) (rs := [.tmp 3]) rfl rfl (Nat.le_of_ble_eq_true rfl) ?_
  intro wf
  unfold szOne
  by_cases h1 : t < 256
  · repeat (first | rw [kz_o] | rw [kz_r0] | simp -dsimp -implicitDefEqProofs only [go_sem, Nat.reduceBEq, Nat.reduceAdd, Nat.reduceLeDiff, Nat.reduceMul, Int.reduceLE, Int.reduceLT, Int.reduceBEq, h1])
    exact ⟨by rw [if_pos h1], rfl⟩
  · have w : IntKind.i64.wrap (t - 256) = t - 256 := by rw [wrap_i64] <;> omega
    obtain ⟨k, hk⟩ := Int.eq_ofNat_of_zero_le (a := t - 256) (by omega)
    rw [hk]
    have w2 : IntKind.i64.wrap (t - 256) = (k : Int) := by rw [w, hk]
    have hk2 : k < (outs l i).length := by rw [outs_len]; omega
    have i0 : (0 : Int) ≤ (k : Int) ∧ (k : Int) < ((outs l i).length : Int) := by omega
    have e0 := get_M hk2
    obtain ⟨q, rfl, q1, q2, q3⟩ : ∃ q, v = .raw (.slice (some ⟨q, 0, none⟩) (outs l i).length (outs l i).length) ∧ N ≤ q ∧ q < hn g .mk ∧ hg g q .mk = some ⟨1, (outs l i).map cI⟩ := by
      obtain ⟨_, h | h⟩ := ho
      · exact absurd h.2 (by omega)
      · exact h
    repeat (first | rw [kz_o] | rw [kz_r0] | simp -dsimp -implicitDefEqProofs only [go_sem, Nat.reduceBEq, Nat.reduceAdd, Nat.reduceLeDiff, Nat.reduceMul, Int.reduceLE, Int.reduceLT, Int.reduceBEq, h1, hb, w2, i0, q3, e0])
    exact ⟨by rw [if_neg h1, Int.toNat_natCast], rfl⟩
end Go.Bi
