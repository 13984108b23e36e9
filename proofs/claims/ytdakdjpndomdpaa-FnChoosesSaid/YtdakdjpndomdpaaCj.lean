/- Walks of dividing down and of powers of e, on both sides. -/
import Derived.Test.YtdakdjpndomdpaaCf
set_option linter.unusedSimpArgs false
set_option linter.unusedVariables false
set_option maxRecDepth 20000
namespace Go.Ai
open Go.Proofs
variable {W0 : World}
def floorI (a b : Int) : Int := if b ≤ 0 then 0 else if inI a (-1000000000000) 1000000000000 = true then (if a.tmod b < 0 then IntKind.i64.wrap (IntKind.i64.wrap (a.tdiv b) - 1) else IntKind.i64.wrap (a.tdiv b)) else 0
theorem l03Floor_ok {a b : Int} {h : Heap} (hb : (b == 0) = false) : WC Try.prog W0 108 [.int .i64 a, .int .i64 b] h (fun v h' => v = .int .i64 (if a.tmod b < 0 then IntKind.i64.wrap (IntKind.i64.wrap (a.tdiv b) - 1) else IntKind.i64.wrap (a.tdiv b)) ∧ h' = h) := by
  refine start (P := Try.prog) [[0, 1], [0, 1], [0, 1, 5], [5], [5]] (by kernel_rfl) Try.func108 rfl (by decide) (by decide +kernel) (rs := [.tmp 4]) rfl rfl (Nat.le_of_ble_eq_true rfl) ?_
  repeat (first | rw [kz_o] | rw [kz_r0] | simp -dsimp -implicitDefEqProofs only [go_sem, ↓reduceIte, Nat.reduceEqDiff, Nat.reduceBEq, and_self, decide_true, decide_false, Bool.not_true, Bool.not_false, ne_eq, not_false_eq_true, Nat.reduceAdd, Nat.reduceLeDiff, Nat.reduceMul, Nat.zero_add, Nat.add_zero, Nat.mul_one, Int.reduceLE, Int.reduceLT, Int.reduceBEq, hb])
  refine gz_dec (fun h1 => ?_) (fun h1 => ?_)
  · repeat (first | rw [kz_o] | rw [kz_r0] | simp -dsimp -implicitDefEqProofs only [go_sem, ↓reduceIte, Nat.reduceEqDiff, Nat.reduceBEq, and_self, decide_true, decide_false, Bool.not_true, Bool.not_false, ne_eq, not_false_eq_true, Nat.reduceAdd, Nat.reduceLeDiff, Nat.reduceMul, Nat.zero_add, Nat.add_zero, Nat.mul_one, Int.reduceLE, Int.reduceLT, Int.reduceBEq])
    exact ⟨by rw [if_pos h1], rfl⟩
  · repeat (first | rw [kz_o] | rw [kz_r0] | simp -dsimp -implicitDefEqProofs only [go_sem, ↓reduceIte, Nat.reduceEqDiff, Nat.reduceBEq, and_self, decide_true, decide_false, Bool.not_true, Bool.not_false, ne_eq, not_false_eq_true, Nat.reduceAdd, Nat.reduceLeDiff, Nat.reduceMul, Nat.zero_add, Nat.add_zero, Nat.mul_one, Int.reduceLE, Int.reduceLT, Int.reduceBEq])
    exact ⟨by rw [if_neg h1], rfl⟩
theorem specFloorDiv_ok {a b : Int} {h : Heap} : WC Try.prog W0 66 [.int .i64 a, .int .i64 b] h (fun v h' => v = .int .i64 (floorI a b) ∧ h' = h) := by
  refine start (P := Try.prog) [[0, 1], [0, 1], [], [0, 1]] (by kernel_rfl) Try.func66 rfl (by decide) (by decide +kernel) (rs := [.tmp 4]) rfl rfl (Nat.le_of_ble_eq_true rfl) ?_
  repeat (first | rw [kz_o] | rw [kz_r0] | simp -dsimp -implicitDefEqProofs only [go_sem, ↓reduceIte, Nat.reduceEqDiff, Nat.reduceBEq, and_self, decide_true, decide_false, Bool.not_true, Bool.not_false, ne_eq, not_false_eq_true, Nat.reduceAdd, Nat.reduceLeDiff, Nat.reduceMul, Nat.zero_add, Nat.add_zero, Nat.mul_one, Int.reduceLE, Int.reduceLT, Int.reduceBEq])
  by_cases h1 : b ≤ 0
  · repeat (first | rw [kz_o] | rw [kz_r0] | simp -dsimp -implicitDefEqProofs only [go_sem, ↓reduceIte, Nat.reduceEqDiff, Nat.reduceBEq, and_self, decide_true, decide_false, Bool.not_true, Bool.not_false, ne_eq, not_false_eq_true, Nat.reduceAdd, Nat.reduceLeDiff, Nat.reduceMul, Nat.zero_add, Nat.add_zero, Nat.mul_one, Int.reduceLE, Int.reduceLT, Int.reduceBEq, h1])
    exact ⟨by simp [floorI, h1], rfl⟩
  · repeat (first | rw [kz_o] | rw [kz_r0] | simp -dsimp -implicitDefEqProofs only [go_sem, ↓reduceIte, Nat.reduceEqDiff, Nat.reduceBEq, and_self, decide_true, decide_false, Bool.not_true, Bool.not_false, ne_eq, not_false_eq_true, Nat.reduceAdd, Nat.reduceLeDiff, Nat.reduceMul, Nat.zero_add, Nat.add_zero, Nat.mul_one, Int.reduceLE, Int.reduceLT, Int.reduceBEq, h1])
    refine wz_intro l01In_ok ?_
    rintro _ h' ⟨rfl, rfl⟩
    cases h2 : inI a (-1000000000000) 1000000000000
    · repeat (first | rw [kz_o] | rw [kz_r0] | simp -dsimp -implicitDefEqProofs only [go_sem, ↓reduceIte, Nat.reduceEqDiff, Nat.reduceBEq, and_self, decide_true, decide_false, Bool.not_true, Bool.not_false, ne_eq, not_false_eq_true, Nat.reduceAdd, Nat.reduceLeDiff, Nat.reduceMul, Nat.zero_add, Nat.add_zero, Nat.mul_one, Int.reduceLE, Int.reduceLT, Int.reduceBEq, h1])
      exact ⟨by simp [floorI, h2], rfl⟩
    · repeat (first | rw [kz_o] | rw [kz_r0] | simp -dsimp -implicitDefEqProofs only [go_sem, ↓reduceIte, Nat.reduceEqDiff, Nat.reduceBEq, and_self, decide_true, decide_false, Bool.not_true, Bool.not_false, ne_eq, not_false_eq_true, Nat.reduceAdd, Nat.reduceLeDiff, Nat.reduceMul, Nat.zero_add, Nat.add_zero, Nat.mul_one, Int.reduceLE, Int.reduceLT, Int.reduceBEq, h1])
      refine wz_intro (l03Floor_ok (by simp; omega)) ?_
      rintro _ h' ⟨rfl, rfl⟩
      repeat (first | rw [kz_o] | rw [kz_r0] | simp -dsimp -implicitDefEqProofs only [go_sem, ↓reduceIte, Nat.reduceEqDiff, Nat.reduceBEq, and_self, decide_true, decide_false, Bool.not_true, Bool.not_false, ne_eq, not_false_eq_true, Nat.reduceAdd, Nat.reduceLeDiff, Nat.reduceMul, Nat.zero_add, Nat.add_zero, Nat.mul_one, Int.reduceLE, Int.reduceLT, Int.reduceBEq])
      exact ⟨by rw [floorI, if_neg h1, if_pos h2], rfl⟩
theorem implFloorDiv_ok {a b : Int} {h : Heap} : WC Try.prog W0 70 [.int .i64 a, .int .i64 b] h (fun v h' => v = .int .i64 (floorI a b) ∧ h' = h) := by
  refine start (P := Try.prog) [[0, 1], [0, 1], [], [0, 1], [0, 1, 5], [5], [5]] (by kernel_rfl) Try.func70 rfl (by decide) (by decide +kernel) (rs := [.tmp 4]) rfl rfl (Nat.le_of_ble_eq_true rfl) ?_
  repeat (first | rw [kz_o] | rw [kz_r0] | simp -dsimp -implicitDefEqProofs only [go_sem, ↓reduceIte, Nat.reduceEqDiff, Nat.reduceBEq, and_self, decide_true, decide_false, Bool.not_true, Bool.not_false, ne_eq, not_false_eq_true, Nat.reduceAdd, Nat.reduceLeDiff, Nat.reduceMul, Nat.zero_add, Nat.add_zero, Nat.mul_one, Int.reduceLE, Int.reduceLT, Int.reduceBEq])
  by_cases h1 : b ≤ 0
  · repeat (first | rw [kz_o] | rw [kz_r0] | simp -dsimp -implicitDefEqProofs only [go_sem, ↓reduceIte, Nat.reduceEqDiff, Nat.reduceBEq, and_self, decide_true, decide_false, Bool.not_true, Bool.not_false, ne_eq, not_false_eq_true, Nat.reduceAdd, Nat.reduceLeDiff, Nat.reduceMul, Nat.zero_add, Nat.add_zero, Nat.mul_one, Int.reduceLE, Int.reduceLT, Int.reduceBEq, h1])
    exact ⟨by simp [floorI, h1], rfl⟩
  · repeat (first | rw [kz_o] | rw [kz_r0] | simp -dsimp -implicitDefEqProofs only [go_sem, ↓reduceIte, Nat.reduceEqDiff, Nat.reduceBEq, and_self, decide_true, decide_false, Bool.not_true, Bool.not_false, ne_eq, not_false_eq_true, Nat.reduceAdd, Nat.reduceLeDiff, Nat.reduceMul, Nat.zero_add, Nat.add_zero, Nat.mul_one, Int.reduceLE, Int.reduceLT, Int.reduceBEq, h1])
    refine wz_intro in_ok ?_
    rintro _ h' ⟨rfl, rfl⟩
    cases h2 : inI a (-1000000000000) 1000000000000
    · repeat (first | rw [kz_o] | rw [kz_r0] | simp -dsimp -implicitDefEqProofs only [go_sem, ↓reduceIte, Nat.reduceEqDiff, Nat.reduceBEq, and_self, decide_true, decide_false, Bool.not_true, Bool.not_false, ne_eq, not_false_eq_true, Nat.reduceAdd, Nat.reduceLeDiff, Nat.reduceMul, Nat.zero_add, Nat.add_zero, Nat.mul_one, Int.reduceLE, Int.reduceLT, Int.reduceBEq, h1])
      exact ⟨by simp [floorI, h2], rfl⟩
    · have hb : (b == 0) = false := by simp; omega
      repeat (first | rw [kz_o] | rw [kz_r0] | simp -dsimp -implicitDefEqProofs only [go_sem, ↓reduceIte, Nat.reduceEqDiff, Nat.reduceBEq, and_self, decide_true, decide_false, Bool.not_true, Bool.not_false, ne_eq, not_false_eq_true, Nat.reduceAdd, Nat.reduceLeDiff, Nat.reduceMul, Nat.zero_add, Nat.add_zero, Nat.mul_one, Int.reduceLE, Int.reduceLT, Int.reduceBEq, h1, hb])
      refine gz_dec (fun h3 => ?_) (fun h3 => ?_)
      · repeat (first | rw [kz_o] | rw [kz_r0] | simp -dsimp -implicitDefEqProofs only [go_sem, ↓reduceIte, Nat.reduceEqDiff, Nat.reduceBEq, and_self, decide_true, decide_false, Bool.not_true, Bool.not_false, ne_eq, not_false_eq_true, Nat.reduceAdd, Nat.reduceLeDiff, Nat.reduceMul, Nat.zero_add, Nat.add_zero, Nat.mul_one, Int.reduceLE, Int.reduceLT, Int.reduceBEq])
        exact ⟨by rw [floorI, if_neg h1, if_pos h2, if_pos h3], rfl⟩
      · repeat (first | rw [kz_o] | rw [kz_r0] | simp -dsimp -implicitDefEqProofs only [go_sem, ↓reduceIte, Nat.reduceEqDiff, Nat.reduceBEq, and_self, decide_true, decide_false, Bool.not_true, Bool.not_false, ne_eq, not_false_eq_true, Nat.reduceAdd, Nat.reduceLeDiff, Nat.reduceMul, Nat.zero_add, Nat.add_zero, Nat.mul_one, Int.reduceLE, Int.reduceLT, Int.reduceBEq])
        exact ⟨by rw [floorI, if_neg h1, if_pos h2, if_neg h3], rfl⟩
def expI (x : Int) : Int := if 0 < x then 256 else if x < -4000 then 0 else (256 - (-x) % 177 + ((-x) % 177 * ((-x) % 177)) / 512) / 2 ^ ((-x) / 177).toNat
theorem pow_bd (m : Nat) (hm : m ≤ 60) : 0 < (2 : Int) ^ m ∧ (2 : Int) ^ m ≤ 1152921504606846976 := by
  have e : (2 : Int) ^ m = ((2 ^ m : Nat) : Int) := by norm_cast
  have h1 : 0 < 2 ^ m := Nat.pow_pos (by decide)
  have h2 : 2 ^ m ≤ 2 ^ 60 := Nat.pow_le_pow_right (by decide) hm
  rw [e]
  have h3 : 2 ^ 60 = 1152921504606846976 := by decide
  omega
theorem l03Pow_ok {n : Int} {h : Heap} (h0 : 0 ≤ n ∧ n ≤ 60) : WC Try.prog W0 109 [.int .i64 n] h (fun v h' => v = .int .i64 (2 ^ n.toNat) ∧ h' = h) := by
  refine start (P := Try.prog) [[0], [0], [0, 3], [0, 3, 4], [0, 3, 4], [0, 3, 4], [3]] (by kernel_rfl) Try.func109 rfl (by decide) (by decide +kernel) (rs := [.tmp 2]) rfl rfl (Nat.le_of_ble_eq_true rfl) ?_
  repeat (first | rw [kz_o] | rw [kz_r0] | simp -dsimp -implicitDefEqProofs only [go_sem, ↓reduceIte, Nat.reduceEqDiff, Nat.reduceBEq, and_self, decide_true, decide_false, Bool.not_true, Bool.not_false, ne_eq, not_false_eq_true, Nat.reduceAdd, Nat.reduceLeDiff, Nat.reduceMul, Nat.zero_add, Nat.add_zero, Nat.mul_one, Int.reduceLE, Int.reduceLT, Int.reduceBEq])
  refine lz_intro (fun k e h' => h' = h ∧ look e 0 .mk = .int .i64 n ∧ ∃ i : Int, look e 4 .mk = .int .i64 i ∧ look e 3 .mk = .int .i64 (2 ^ i.toNat) ∧ 0 ≤ i ∧ (k : Int) + i = n) n.toNat ?_ ?_
  · refine ⟨rfl, ?_, 0, ?_, ?_, by omega, by omega⟩ <;> simp -dsimp -implicitDefEqProofs only [go_sem, ↓reduceIte, Nat.reduceEqDiff, Nat.reduceBEq, and_self, decide_true, decide_false, Bool.not_true, Bool.not_false, ne_eq, not_false_eq_true, Nat.reduceAdd, Nat.reduceLeDiff, Nat.reduceMul, Nat.zero_add, Nat.add_zero, Nat.mul_one, Int.reduceLE, Int.reduceLT, Int.reduceBEq]
    rfl
  · rintro k e h ⟨rfl, e0, i, e4, e3, hi, hk⟩
    repeat (first | rw [kz_o] | rw [kz_r0] | simp -dsimp -implicitDefEqProofs only [go_sem, ↓reduceIte, Nat.reduceEqDiff, Nat.reduceBEq, and_self, decide_true, decide_false, Bool.not_true, Bool.not_false, ne_eq, not_false_eq_true, Nat.reduceAdd, Nat.reduceLeDiff, Nat.reduceMul, Nat.zero_add, Nat.add_zero, Nat.mul_one, Int.reduceLE, Int.reduceLT, Int.reduceBEq, e0, e3, e4])
    refine gz_dec (fun h2 => ?_) (fun h2 => ?_)
    · repeat (first | rw [kz_o] | rw [kz_r0] | simp -dsimp -implicitDefEqProofs only [go_sem, ↓reduceIte, Nat.reduceEqDiff, Nat.reduceBEq, and_self, decide_true, decide_false, Bool.not_true, Bool.not_false, ne_eq, not_false_eq_true, Nat.reduceAdd, Nat.reduceLeDiff, Nat.reduceMul, Nat.zero_add, Nat.add_zero, Nat.mul_one, Int.reduceLE, Int.reduceLT, Int.reduceBEq, e0, e3, e4])
      have hw : IntKind.i64.wrap (i + 1) = i + 1 := by rw [wrap_i64] <;> omega
      have hp : (2 : Int) ^ (i + 1).toNat = 2 * 2 ^ i.toNat := by
        rw [show (i + 1).toNat = i.toNat + 1 by omega, Int.pow_succ]; omega
      have hb := pow_bd (i + 1).toNat (by omega)
      have hw2 : IntKind.i64.wrap (2 * 2 ^ i.toNat) = 2 ^ (i + 1).toNat := by rw [← hp, wrap_i64] <;> omega
      refine ⟨k - 1, by omega, rfl, ?_, i + 1, ?_, ?_, by omega, by omega⟩
      · simp -dsimp -implicitDefEqProofs only [go_sem, ↓reduceIte, Nat.reduceEqDiff, Nat.reduceBEq, and_self, decide_true, decide_false, Bool.not_true, Bool.not_false, ne_eq, not_false_eq_true, Nat.reduceAdd, Nat.reduceLeDiff, Nat.reduceMul, Nat.zero_add, Nat.add_zero, Nat.mul_one, Int.reduceLE, Int.reduceLT, Int.reduceBEq]
      · simp -dsimp -implicitDefEqProofs only [go_sem, ↓reduceIte, Nat.reduceEqDiff, Nat.reduceBEq, and_self, decide_true, decide_false, Bool.not_true, Bool.not_false, ne_eq, not_false_eq_true, Nat.reduceAdd, Nat.reduceLeDiff, Nat.reduceMul, Nat.zero_add, Nat.add_zero, Nat.mul_one, Int.reduceLE, Int.reduceLT, Int.reduceBEq, hw]
      · simp -dsimp -implicitDefEqProofs only [go_sem, ↓reduceIte, Nat.reduceEqDiff, Nat.reduceBEq, and_self, decide_true, decide_false, Bool.not_true, Bool.not_false, ne_eq, not_false_eq_true, Nat.reduceAdd, Nat.reduceLeDiff, Nat.reduceMul, Nat.zero_add, Nat.add_zero, Nat.mul_one, Int.reduceLE, Int.reduceLT, Int.reduceBEq, hw2]
    · repeat (first | rw [kz_o] | rw [kz_r0] | simp -dsimp -implicitDefEqProofs only [go_sem, ↓reduceIte, Nat.reduceEqDiff, Nat.reduceBEq, and_self, decide_true, decide_false, Bool.not_true, Bool.not_false, ne_eq, not_false_eq_true, Nat.reduceAdd, Nat.reduceLeDiff, Nat.reduceMul, Nat.zero_add, Nat.add_zero, Nat.mul_one, Int.reduceLE, Int.reduceLT, Int.reduceBEq, e0, e3, e4])
      have : i = n := by omega
      subst this
      exact ⟨rfl, rfl⟩
/-- What is left of a power: its wraps do nothing. -/
theorem exp_body {r k : Int} (hr : 0 ≤ r ∧ r ≤ 176) : IntKind.i64.wrap (IntKind.i64.wrap (256 - r) + IntKind.i64.wrap ((IntKind.i64.wrap (r * r)).tdiv 512)) = 256 - r + r * r / 512 ∧ 0 ≤ 256 - r + r * r / 512 ∧ 256 - r + r * r / 512 ≤ 400 := by
  have h1 : 0 ≤ r * r := Int.mul_nonneg hr.1 hr.1
  have h2 : r * r ≤ 176 * 176 := Int.mul_le_mul hr.2 hr.2 hr.1 (by decide)
  rw [wrap_i64 (x := r * r) (by omega) (by omega), Int.tdiv_eq_ediv_of_nonneg h1, wrap_i64 (x := 256 - r) (by omega) (by omega)]
  generalize r * r = q at *
  rw [wrap_i64 (x := q / 512) (by omega) (by omega), wrap_i64 (by omega) (by omega)]
  omega
theorem shr_div {x k : Int} (hk : 0 ≤ k ∧ k ≤ 60) : shrI .i64 x k = x / 2 ^ k.toNat := by
  unfold shrI
  have : min k.toNat IntKind.i64.bits = k.toNat := by simp only [IntKind.bits]; omega
  rw [this, Int.fdiv_eq_ediv_of_nonneg _ (by have := pow_bd k.toNat (by omega); omega)]
theorem implExp_ok {x : Int} {h : Heap} : WC Try.prog W0 69 [.int .i64 x] h (fun v h' => v = .int .i64 (expI x) ∧ h' = h) := by
  refine start (P := Try.prog) [[0], [0], [], [0], [], [0], [3, 4]] (by kernel_rfl) Try.func69 rfl (by decide) (by decide +kernel) (rs := [.tmp 2]) rfl rfl (Nat.le_of_ble_eq_true rfl) ?_
  repeat (first | rw [kz_o] | rw [kz_r0] | simp -dsimp -implicitDefEqProofs only [go_sem, ↓reduceIte, Nat.reduceEqDiff, Nat.reduceBEq, and_self, decide_true, decide_false, Bool.not_true, Bool.not_false, ne_eq, not_false_eq_true, Nat.reduceAdd, Nat.reduceLeDiff, Nat.reduceMul, Nat.zero_add, Nat.add_zero, Nat.mul_one, Int.reduceLE, Int.reduceLT, Int.reduceBEq])
  refine gz_dec (fun h1 => ?_) (fun h1 => ?_)
  · repeat (first | rw [kz_o] | rw [kz_r0] | simp -dsimp -implicitDefEqProofs only [go_sem, ↓reduceIte, Nat.reduceEqDiff, Nat.reduceBEq, and_self, decide_true, decide_false, Bool.not_true, Bool.not_false, ne_eq, not_false_eq_true, Nat.reduceAdd, Nat.reduceLeDiff, Nat.reduceMul, Nat.zero_add, Nat.add_zero, Nat.mul_one, Int.reduceLE, Int.reduceLT, Int.reduceBEq])
    exact ⟨by rw [expI, if_neg (by omega), if_pos h1], rfl⟩
  · repeat (first | rw [kz_o] | rw [kz_r0] | simp -dsimp -implicitDefEqProofs only [go_sem, ↓reduceIte, Nat.reduceEqDiff, Nat.reduceBEq, and_self, decide_true, decide_false, Bool.not_true, Bool.not_false, ne_eq, not_false_eq_true, Nat.reduceAdd, Nat.reduceLeDiff, Nat.reduceMul, Nat.zero_add, Nat.add_zero, Nat.mul_one, Int.reduceLE, Int.reduceLT, Int.reduceBEq])
    refine gz_dec (fun h2 => ?_) (fun h2 => ?_)
    · repeat (first | rw [kz_o] | rw [kz_r0] | simp -dsimp -implicitDefEqProofs only [go_sem, ↓reduceIte, Nat.reduceEqDiff, Nat.reduceBEq, and_self, decide_true, decide_false, Bool.not_true, Bool.not_false, ne_eq, not_false_eq_true, Nat.reduceAdd, Nat.reduceLeDiff, Nat.reduceMul, Nat.zero_add, Nat.add_zero, Nat.mul_one, Int.reduceLE, Int.reduceLT, Int.reduceBEq])
      exact ⟨by rw [expI, if_pos h2], rfl⟩
    · have hneg : IntKind.i64.wrap (0 - x) = -x := by rw [wrap_i64] <;> omega
      have hq : (-x).tdiv 177 = (-x) / 177 := Int.tdiv_eq_ediv_of_nonneg (by omega)
      have hr : (-x).tmod 177 = (-x) % 177 := Int.tmod_eq_emod_of_nonneg (by omega)
      have hq2 : IntKind.i64.wrap ((-x) / 177) = (-x) / 177 := by rw [wrap_i64] <;> omega
      have hk0 : 0 ≤ (-x) / 177 := by omega
      have hr0 : 0 ≤ (-x) % 177 ∧ (-x) % 177 ≤ 176 := by omega
      repeat (first | rw [kz_o] | rw [kz_r0] | simp -dsimp -implicitDefEqProofs only [go_sem, ↓reduceIte, Nat.reduceEqDiff, Nat.reduceBEq, and_self, decide_true, decide_false, Bool.not_true, Bool.not_false, ne_eq, not_false_eq_true, Nat.reduceAdd, Nat.reduceLeDiff, Nat.reduceMul, Nat.zero_add, Nat.add_zero, Nat.mul_one, Int.reduceLE, Int.reduceLT, Int.reduceBEq, hneg, hq, hr, hq2, hk0])
      refine ⟨?_, rfl⟩
      rw [expI, if_neg h2, if_neg h1]
      rw [(exp_body (k := 0) hr0).1, shr_div (by omega)]
theorem specExp_ok {x : Int} {h : Heap} : WC Try.prog W0 67 [.int .i64 x] h (fun v h' => v = .int .i64 (expI x) ∧ h' = h) := by
  refine start (P := Try.prog) [[0], [0], [], [0], [], [0], [0, 3], [3, 4]] (by kernel_rfl) Try.func67 rfl (by decide) (by decide +kernel) (rs := [.tmp 2]) rfl rfl (Nat.le_of_ble_eq_true rfl) ?_
  repeat (first | rw [kz_o] | rw [kz_r0] | simp -dsimp -implicitDefEqProofs only [go_sem, ↓reduceIte, Nat.reduceEqDiff, Nat.reduceBEq, and_self, decide_true, decide_false, Bool.not_true, Bool.not_false, ne_eq, not_false_eq_true, Nat.reduceAdd, Nat.reduceLeDiff, Nat.reduceMul, Nat.zero_add, Nat.add_zero, Nat.mul_one, Int.reduceLE, Int.reduceLT, Int.reduceBEq])
  refine gz_dec (fun h2 => ?_) (fun h2 => ?_)
  · repeat (first | rw [kz_o] | rw [kz_r0] | simp -dsimp -implicitDefEqProofs only [go_sem, ↓reduceIte, Nat.reduceEqDiff, Nat.reduceBEq, and_self, decide_true, decide_false, Bool.not_true, Bool.not_false, ne_eq, not_false_eq_true, Nat.reduceAdd, Nat.reduceLeDiff, Nat.reduceMul, Nat.zero_add, Nat.add_zero, Nat.mul_one, Int.reduceLE, Int.reduceLT, Int.reduceBEq])
    exact ⟨by rw [expI, if_pos h2], rfl⟩
  · repeat (first | rw [kz_o] | rw [kz_r0] | simp -dsimp -implicitDefEqProofs only [go_sem, ↓reduceIte, Nat.reduceEqDiff, Nat.reduceBEq, and_self, decide_true, decide_false, Bool.not_true, Bool.not_false, ne_eq, not_false_eq_true, Nat.reduceAdd, Nat.reduceLeDiff, Nat.reduceMul, Nat.zero_add, Nat.add_zero, Nat.mul_one, Int.reduceLE, Int.reduceLT, Int.reduceBEq])
    refine gz_dec (fun h1 => ?_) (fun h1 => ?_)
    · repeat (first | rw [kz_o] | rw [kz_r0] | simp -dsimp -implicitDefEqProofs only [go_sem, ↓reduceIte, Nat.reduceEqDiff, Nat.reduceBEq, and_self, decide_true, decide_false, Bool.not_true, Bool.not_false, ne_eq, not_false_eq_true, Nat.reduceAdd, Nat.reduceLeDiff, Nat.reduceMul, Nat.zero_add, Nat.add_zero, Nat.mul_one, Int.reduceLE, Int.reduceLT, Int.reduceBEq])
      exact ⟨by rw [expI, if_neg (by omega), if_pos h1], rfl⟩
    · have hneg : IntKind.i64.wrap (0 - x) = -x := by rw [wrap_i64] <;> omega
      have hq : (-x).tdiv 177 = (-x) / 177 := Int.tdiv_eq_ediv_of_nonneg (by omega)
      have hr : (-x).tmod 177 = (-x) % 177 := Int.tmod_eq_emod_of_nonneg (by omega)
      have hq2 : IntKind.i64.wrap ((-x) / 177) = (-x) / 177 := by rw [wrap_i64] <;> omega
      have hk0 : 0 ≤ (-x) / 177 := by omega
      have hr0 : 0 ≤ (-x) % 177 ∧ (-x) % 177 ≤ 176 := by omega
      repeat (first | rw [kz_o] | rw [kz_r0] | simp -dsimp -implicitDefEqProofs only [go_sem, ↓reduceIte, Nat.reduceEqDiff, Nat.reduceBEq, and_self, decide_true, decide_false, Bool.not_true, Bool.not_false, ne_eq, not_false_eq_true, Nat.reduceAdd, Nat.reduceLeDiff, Nat.reduceMul, Nat.zero_add, Nat.add_zero, Nat.mul_one, Int.reduceLE, Int.reduceLT, Int.reduceBEq, hneg, hq, hr, hq2, hk0])
      refine wz_intro (l03Pow_ok (by omega)) ?_
      rintro _ h' ⟨rfl, rfl⟩
      have hpb := pow_bd ((-x) / 177).toNat (by omega)
      have hp0 : ((2 : Int) ^ ((-x) / 177).toNat == 0) = false := by simp only [beq_eq_false_iff_ne]; omega
      repeat (first | rw [kz_o] | rw [kz_r0] | simp -dsimp -implicitDefEqProofs only [go_sem, ↓reduceIte, Nat.reduceEqDiff, Nat.reduceBEq, and_self, decide_true, decide_false, Bool.not_true, Bool.not_false, ne_eq, not_false_eq_true, Nat.reduceAdd, Nat.reduceLeDiff, Nat.reduceMul, Nat.zero_add, Nat.add_zero, Nat.mul_one, Int.reduceLE, Int.reduceLT, Int.reduceBEq, hp0])
      refine ⟨?_, rfl⟩
      obtain ⟨e1, e2, e3⟩ := exp_body (k := 0) hr0
      rw [e1, expI, if_neg h2, if_neg h1, Int.tdiv_eq_ediv_of_nonneg e2]
      generalize (2 : Int) ^ ((-x) / 177).toNat = p at *
      generalize 256 - -x % 177 + -x % 177 * (-x % 177) / 512 = t at *
      have d1 : 0 ≤ t / p := Int.ediv_nonneg e2 (by omega)
      have d2 : t / p ≤ t := Int.ediv_le_self _ e2
      rw [wrap_i64 (by omega) (by omega)]
end Go.Ai
