/- Walks of a test over all numbers of a row, by a function that holds two variables. -/
import Derived.Test.YtdakdjpndomdpaaCi
import Derived.Test.YtdakdjpndomdpaaCj
set_option linter.unusedSimpArgs false
set_option linter.unusedVariables false
set_option maxRecDepth 20000
namespace Go.Ai
open Go.Proofs
variable {W0 : World}
theorem indexI_ok {f : FuncId} {p : Int → Bool} {caps : List Value} {a : Option Addr} {n c : Nat} {ss : List Int} {h : Heap} (r : Row1 h a n (ss.map (.int .i64))) (hn0 : n ≤ 9223372036854775807)
    (hf : ∀ s, WC Try.prog W0 f ([.int .i64 s] ++ caps) h (fun v h' => v = .bool (p s) ∧ h' = h)) :
    WC Try.prog W0 136 [.slice a n c, .func (.func f) #[] caps.toArray] h (fun v h' => (∃ k : Int, v = .int .i64 k ∧ decide (0 ≤ k) = ss.any p) ∧ h' = h) := by
  have hlen := r.1
  simp at hlen
  refine start (P := Try.prog) [[0, 1], [0, 1], [0, 1, 7, 8], [0, 1, 7, 8], [0, 1, 5, 7, 8], [5], [0, 1, 7, 8], []] (by kernel_rfl) Try.func136 rfl (by decide) (by decide +kernel) (rs := [.tmp 4]) rfl rfl (Nat.le_of_ble_eq_true rfl) ?_
  repeat (first | rw [kz_o] | rw [kz_r0] | simp -dsimp -implicitDefEqProofs only [go_sem, ↓reduceIte, Nat.reduceEqDiff, Nat.reduceBEq, and_self, decide_true, decide_false, Bool.not_true, Bool.not_false, ne_eq, not_false_eq_true, Nat.reduceAdd, Nat.reduceLeDiff, Nat.reduceMul, Nat.zero_add, Nat.add_zero, Nat.mul_one, Int.reduceLE, Int.reduceLT, Int.reduceBEq])
  refine lz_intro (fun k e h' => h' = h ∧ look e 0 .mk = .slice a n c ∧ look e 1 .mk = .func (.func f) #[] caps.toArray ∧ look e 7 .mk = .int .i64 n ∧ ∃ i : Int, look e 8 .mk = .int .i64 i ∧ 0 ≤ i ∧ (k : Int) + i = n ∧ ∀ j : Nat, (j : Int) < i → ∀ hj : j < ss.length, p ss[j] = false) n ?_ ?_
  · refine ⟨rfl, ?_, ?_, ?_, 0, ?_, by omega, by omega, fun j hj => by omega⟩ <;> simp -dsimp -implicitDefEqProofs only [go_sem, ↓reduceIte, Nat.reduceEqDiff, Nat.reduceBEq, and_self, decide_true, decide_false, Bool.not_true, Bool.not_false, ne_eq, not_false_eq_true, Nat.reduceAdd, Nat.reduceLeDiff, Nat.reduceMul, Nat.zero_add, Nat.add_zero, Nat.mul_one, Int.reduceLE, Int.reduceLT, Int.reduceBEq]
  · rintro k e h ⟨rfl, e0, e1, e7, i, e8, hi, hk, hpre⟩
    repeat (first | rw [kz_o] | rw [kz_r0] | simp -dsimp -implicitDefEqProofs only [go_sem, ↓reduceIte, Nat.reduceEqDiff, Nat.reduceBEq, and_self, decide_true, decide_false, Bool.not_true, Bool.not_false, ne_eq, not_false_eq_true, Nat.reduceAdd, Nat.reduceLeDiff, Nat.reduceMul, Nat.zero_add, Nat.add_zero, Nat.mul_one, Int.reduceLE, Int.reduceLT, Int.reduceBEq, e0, e1, e7, e8])
    refine gz_dec (fun h2 => ?_) (fun h2 => ?_)
    · obtain ⟨b, off, w, z, cs, ha, hb, hlt, hy⟩ := r.2 i.toNat (by omega)
      subst ha
      have hl1 : i.toNat < ss.length := by omega
      rw [List.getElem?_map, List.getElem?_eq_getElem hl1, Option.map_some] at hy
      have hi2 : 0 ≤ i ∧ i < (n : Int) := ⟨hi, h2⟩
      repeat (first | rw [kz_o] | rw [kz_r0] | simp -dsimp -implicitDefEqProofs only [go_sem, ↓reduceIte, Nat.reduceEqDiff, Nat.reduceBEq, and_self, decide_true, decide_false, Bool.not_true, Bool.not_false, ne_eq, not_false_eq_true, Nat.reduceAdd, Nat.reduceLeDiff, Nat.reduceMul, Nat.zero_add, Nat.add_zero, Nat.mul_one, Int.reduceLE, Int.reduceLT, Int.reduceBEq, e0, e1, e7, e8, hi2, hb, hy])
      refine wz_intro (hf _) ?_
      rintro _ h' ⟨rfl, rfl⟩
      repeat (first | rw [kz_o] | rw [kz_r0] | simp -dsimp -implicitDefEqProofs only [go_sem, ↓reduceIte, Nat.reduceEqDiff, Nat.reduceBEq, and_self, decide_true, decide_false, Bool.not_true, Bool.not_false, ne_eq, not_false_eq_true, Nat.reduceAdd, Nat.reduceLeDiff, Nat.reduceMul, Nat.zero_add, Nat.add_zero, Nat.mul_one, Int.reduceLE, Int.reduceLT, Int.reduceBEq, e0, e1, e7, e8])
      refine gz_intro (fun h3 => ?_) (fun h3 => ?_)
      · repeat (first | rw [kz_o] | rw [kz_r0] | simp -dsimp -implicitDefEqProofs only [go_sem, ↓reduceIte, Nat.reduceEqDiff, Nat.reduceBEq, and_self, decide_true, decide_false, Bool.not_true, Bool.not_false, ne_eq, not_false_eq_true, Nat.reduceAdd, Nat.reduceLeDiff, Nat.reduceMul, Nat.zero_add, Nat.add_zero, Nat.mul_one, Int.reduceLE, Int.reduceLT, Int.reduceBEq, e0, e1, e7, e8])
        refine ⟨⟨_, rfl, ?_⟩, rfl⟩
        have : ss.any p = true := List.any_eq_true.2 ⟨_, List.getElem_mem hl1, h3⟩
        rw [this]; simpa using hi
      · repeat (first | rw [kz_o] | rw [kz_r0] | simp -dsimp -implicitDefEqProofs only [go_sem, ↓reduceIte, Nat.reduceEqDiff, Nat.reduceBEq, and_self, decide_true, decide_false, Bool.not_true, Bool.not_false, ne_eq, not_false_eq_true, Nat.reduceAdd, Nat.reduceLeDiff, Nat.reduceMul, Nat.zero_add, Nat.add_zero, Nat.mul_one, Int.reduceLE, Int.reduceLT, Int.reduceBEq, e0, e1, e7, e8])
        refine ⟨k - 1, by omega, rfl, ?_, ?_, ?_, i + 1, ?_, by omega, by omega, ?_⟩
        · simp -dsimp -implicitDefEqProofs only [go_sem, ↓reduceIte, Nat.reduceEqDiff, Nat.reduceBEq, and_self, decide_true, decide_false, Bool.not_true, Bool.not_false, ne_eq, not_false_eq_true, Nat.reduceAdd, Nat.reduceLeDiff, Nat.reduceMul, Nat.zero_add, Nat.add_zero, Nat.mul_one, Int.reduceLE, Int.reduceLT, Int.reduceBEq]
        · simp -dsimp -implicitDefEqProofs only [go_sem, ↓reduceIte, Nat.reduceEqDiff, Nat.reduceBEq, and_self, decide_true, decide_false, Bool.not_true, Bool.not_false, ne_eq, not_false_eq_true, Nat.reduceAdd, Nat.reduceLeDiff, Nat.reduceMul, Nat.zero_add, Nat.add_zero, Nat.mul_one, Int.reduceLE, Int.reduceLT, Int.reduceBEq]
        · simp -dsimp -implicitDefEqProofs only [go_sem, ↓reduceIte, Nat.reduceEqDiff, Nat.reduceBEq, and_self, decide_true, decide_false, Bool.not_true, Bool.not_false, ne_eq, not_false_eq_true, Nat.reduceAdd, Nat.reduceLeDiff, Nat.reduceMul, Nat.zero_add, Nat.add_zero, Nat.mul_one, Int.reduceLE, Int.reduceLT, Int.reduceBEq]
        · have hw : IntKind.i64.wrap (i + 1) = i + 1 := by rw [wrap_i64] <;> omega
          simp -dsimp -implicitDefEqProofs only [go_sem, ↓reduceIte, Nat.reduceEqDiff, Nat.reduceBEq, and_self, decide_true, decide_false, Bool.not_true, Bool.not_false, ne_eq, not_false_eq_true, Nat.reduceAdd, Nat.reduceLeDiff, Nat.reduceMul, Nat.zero_add, Nat.add_zero, Nat.mul_one, Int.reduceLE, Int.reduceLT, Int.reduceBEq, hw]
        · intro j hj hjl
          by_cases hji : j = i.toNat
          · subst hji; exact h3
          · exact hpre j (by omega) hjl
    · repeat (first | rw [kz_o] | rw [kz_r0] | simp -dsimp -implicitDefEqProofs only [go_sem, ↓reduceIte, Nat.reduceEqDiff, Nat.reduceBEq, and_self, decide_true, decide_false, Bool.not_true, Bool.not_false, ne_eq, not_false_eq_true, Nat.reduceAdd, Nat.reduceLeDiff, Nat.reduceMul, Nat.zero_add, Nat.add_zero, Nat.mul_one, Int.reduceLE, Int.reduceLT, Int.reduceBEq, e0, e1, e7, e8])
      refine ⟨⟨_, rfl, ?_⟩, rfl⟩
      have : ss.any p = false := by
        rw [List.any_eq_false]
        intro x hx
        obtain ⟨j, hj, rfl⟩ := List.getElem_of_mem hx
        simp [hpre j (by omega) hj]
      rw [this]; rfl
theorem containsI_ok {f : FuncId} {p : Int → Bool} {caps : List Value} {a : Option Addr} {n c : Nat} {ss : List Int} {h : Heap} (r : Row1 h a n (ss.map (.int .i64))) (hn0 : n ≤ 9223372036854775807)
    (hf : ∀ s, WC Try.prog W0 f ([.int .i64 s] ++ caps) h (fun v h' => v = .bool (p s) ∧ h' = h)) :
    WC Try.prog W0 110 [.slice a n c, .func (.func f) #[] caps.toArray] h (fun v h' => v = .bool (ss.any p) ∧ h' = h) := by
  refine start (P := Try.prog) [[0, 1], [0, 1]] (by kernel_rfl) Try.func110 rfl (by decide) (by decide +kernel) (rs := [.tmp 4]) rfl rfl (Nat.le_of_ble_eq_true rfl) ?_
  repeat (first | rw [kz_o] | rw [kz_r0] | simp -dsimp -implicitDefEqProofs only [go_sem, ↓reduceIte, Nat.reduceEqDiff, Nat.reduceBEq, and_self, decide_true, decide_false, Bool.not_true, Bool.not_false, ne_eq, not_false_eq_true, Nat.reduceAdd, Nat.reduceLeDiff, Nat.reduceMul, Nat.zero_add, Nat.add_zero, Nat.mul_one, Int.reduceLE, Int.reduceLT, Int.reduceBEq])
  refine wz_intro (indexI_ok r hn0 hf) ?_
  rintro _ h' ⟨⟨k, rfl, hk⟩, rfl⟩
  repeat (first | rw [kz_o] | rw [kz_r0] | simp -dsimp -implicitDefEqProofs only [go_sem, ↓reduceIte, Nat.reduceEqDiff, Nat.reduceBEq, and_self, decide_true, decide_false, Bool.not_true, Bool.not_false, ne_eq, not_false_eq_true, Nat.reduceAdd, Nat.reduceLeDiff, Nat.reduceMul, Nat.zero_add, Nat.add_zero, Nat.mul_one, Int.reduceLE, Int.reduceLT, Int.reduceBEq, hk])
  exact ⟨rfl, rfl⟩

theorem allIn1_ok {b1 b2 : Nat} {z1 z2 : Nat} {w1 w2 : Bool} {x y : Int} {h : Heap} (h1 : hg h b1 .mk = some ⟨w1, z1, [.int .i64 x]⟩) (h2 : hg h b2 .mk = some ⟨w2, z2, [.int .i64 y]⟩) (s : Int) :
    WC Try.prog W0 111 ([.int .i64 s] ++ [.pointer (some ⟨b1, 0, none⟩), .pointer (some ⟨b2, 0, none⟩)]) h (fun v h' => v = .bool (!inI s x y) ∧ h' = h) := by
  simp only [List.cons_append, List.nil_append]
  refine start (P := Try.prog) [[0, 1, 2], [0, 1, 2]] (by kernel_rfl) Try.func111 rfl (by decide) (by decide +kernel) (rs := [.tmp 4]) rfl rfl (Nat.le_of_ble_eq_true rfl) ?_
  repeat (first | rw [kz_o] | rw [kz_r0] | simp -dsimp -implicitDefEqProofs only [go_sem, ↓reduceIte, Nat.reduceEqDiff, Nat.reduceBEq, and_self, decide_true, decide_false, Bool.not_true, Bool.not_false, ne_eq, not_false_eq_true, Nat.reduceAdd, Nat.reduceLeDiff, Nat.reduceMul, Nat.zero_add, Nat.add_zero, Nat.mul_one, Int.reduceLE, Int.reduceLT, Int.reduceBEq, h1, h2])
  refine wz_intro in_ok ?_
  rintro _ h' ⟨rfl, rfl⟩
  repeat (first | rw [kz_o] | rw [kz_r0] | simp -dsimp -implicitDefEqProofs only [go_sem, ↓reduceIte, Nat.reduceEqDiff, Nat.reduceBEq, and_self, decide_true, decide_false, Bool.not_true, Bool.not_false, ne_eq, not_false_eq_true, Nat.reduceAdd, Nat.reduceLeDiff, Nat.reduceMul, Nat.zero_add, Nat.add_zero, Nat.mul_one, Int.reduceLE, Int.reduceLT, Int.reduceBEq])
  exact ⟨rfl, rfl⟩
theorem allIn_ok {a : Option Addr} {n c : Nat} {ss : List Int} {x y : Int} {h : Heap} (r : Row1 h a n (ss.map (.int .i64))) (hn0 : n ≤ 9223372036854775807) :
    WC Try.prog W0 68 [.slice a n c, .int .i64 x, .int .i64 y] h (fun v h' => v = .bool (ss.all fun s => inI s x y) ∧ h.le h') := by
  have hoo : ∀ x : Nat, (x == x) = true := by simp
  have hle : ∀ k k', h.le ((h.push k).push k') := fun k k' => le_push (le_push (Heap.le_refl h))
  refine start (P := Try.prog) [[0, 1, 2], [0, 4, 5]] (by kernel_rfl) Try.func68 rfl (by decide) (by decide +kernel) (rs := [.tmp 6]) rfl rfl (Nat.le_of_ble_eq_true rfl) ?_
  repeat (first | rw [kz_o] | rw [kz_r0] | simp -dsimp -implicitDefEqProofs only [go_sem, ↓reduceIte, Nat.reduceEqDiff, Nat.reduceBEq, and_self, decide_true, decide_false, Bool.not_true, Bool.not_false, ne_eq, not_false_eq_true, Nat.reduceAdd, Nat.reduceLeDiff, Nat.reduceMul, Nat.zero_add, Nat.add_zero, Nat.mul_one, Int.reduceLE, Int.reduceLT, Int.reduceBEq, hoo])
  refine wz_intro (containsI_ok (r.mono (hle _ _)) hn0 (allIn1_ok (x := x) (y := y) (z1 := 1) (z2 := 1) (w1 := true) (w2 := true) ?_ ?_)) ?_
  · simp -dsimp -implicitDefEqProofs only [go_sem, ↓reduceIte, Nat.reduceEqDiff, Nat.reduceBEq, and_self, decide_true, decide_false, Bool.not_true, Bool.not_false, ne_eq, not_false_eq_true, Nat.reduceAdd, Nat.reduceLeDiff, Nat.reduceMul, Nat.zero_add, Nat.add_zero, Nat.mul_one, Int.reduceLE, Int.reduceLT, Int.reduceBEq, hoo]
  · simp -dsimp -implicitDefEqProofs only [go_sem, ↓reduceIte, Nat.reduceEqDiff, Nat.reduceBEq, and_self, decide_true, decide_false, Bool.not_true, Bool.not_false, ne_eq, not_false_eq_true, Nat.reduceAdd, Nat.reduceLeDiff, Nat.reduceMul, Nat.zero_add, Nat.add_zero, Nat.mul_one, Int.reduceLE, Int.reduceLT, Int.reduceBEq, hoo]
  rintro _ h' ⟨rfl, rfl⟩
  repeat (first | rw [kz_o] | rw [kz_r0] | simp -dsimp -implicitDefEqProofs only [go_sem, ↓reduceIte, Nat.reduceEqDiff, Nat.reduceBEq, and_self, decide_true, decide_false, Bool.not_true, Bool.not_false, ne_eq, not_false_eq_true, Nat.reduceAdd, Nat.reduceLeDiff, Nat.reduceMul, Nat.zero_add, Nat.add_zero, Nat.mul_one, Int.reduceLE, Int.reduceLT, Int.reduceBEq])
  exact ⟨by rw [List.all_eq_not_any_not], hle _ _⟩
end Go.Ai
