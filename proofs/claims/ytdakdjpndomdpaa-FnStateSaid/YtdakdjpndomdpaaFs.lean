/- Proved: states go on by the same number each, and what is told of a state is told by no state next to it, for every draw. No condition. -/
import Derived.Test.YtdakdjpndomdpaaCu
set_option linter.unusedSimpArgs false
set_option linter.unusedVariables false
set_option maxRecDepth 20000
namespace Go.Ai
open Go.Proofs
variable {W0 : World}

/-! ### Numbers of 64 bits -/
theorem shift_back (x : BitVec 64) (k : Nat) (hk : 64 ≤ 3 * k) : (x ^^^ (x >>> k)) ^^^ ((x ^^^ (x >>> k)) >>> k) ^^^ ((x ^^^ (x >>> k)) >>> (2 * k)) = x := by
  apply BitVec.eq_of_getLsbD_eq
  intro i hi
  simp only [BitVec.getLsbD_xor, BitVec.getLsbD_ushiftRight]
  have h3 : x.getLsbD (k + (2 * k + i)) = false := BitVec.getLsbD_of_ge _ _ (by omega)
  rw [h3, show k + (k + i) = 2 * k + i by omega]
  cases x.getLsbD i <;> cases x.getLsbD (k + i) <;> cases x.getLsbD (2 * k + i) <;> rfl
theorem shift_inj {x y : BitVec 64} (k : Nat) (hk : 64 ≤ 3 * k) (h : x ^^^ (x >>> k) = y ^^^ (y >>> k)) : x = y := by
  rw [← shift_back x k hk, h, shift_back y k hk]
theorem mul_inj {x y : BitVec 64} (c d : BitVec 64) (hc : c * d = 1#64) (h : x * c = y * c) : x = y := by
  have := congrArg (· * d) h
  simpa [BitVec.mul_assoc, hc] using this
def stepB (z : BitVec 64) (k : Nat) (c : BitVec 64) : BitVec 64 := (z ^^^ (z >>> k)) * c
def lastB (z : BitVec 64) : BitVec 64 := z ^^^ (z >>> 31)
def mixB (z : BitVec 64) : BitVec 64 := lastB (stepB (stepB z 30 13787848793156543929#64) 27 10723151780598845931#64)
theorem mixB_inj {x y : BitVec 64} (h : mixB x = mixB y) : x = y := by
  unfold mixB lastB stepB at h
  have h1 := shift_inj 31 (by omega) h
  have h2 := shift_inj 27 (by omega) (mul_inj _ 3573116690164977347#64 (by decide) h1)
  exact shift_inj 30 (by omega) (mul_inj _ 10871156337175269513#64 (by decide) h2)

theorem ofInt_toNat (b : BitVec 64) : BitVec.ofInt 64 (b.toNat : Int) = b := by simp
theorem wrap_nat (n : Nat) (h : n < 18446744073709551616) : IntKind.u64.wrap (n : Int) = n := by rw [wrap_u64]; omega
theorem xor_B (a b : BitVec 64) : Go.bits .xor .u64 a.toNat b.toNat = ((a ^^^ b).toNat : Int) := by
  show IntKind.u64.wrap (((BitVec.ofInt 64 (a.toNat : Int)) ^^^ (BitVec.ofInt 64 (b.toNat : Int))).toNat : Int) = _
  rw [ofInt_toNat, ofInt_toNat]
  exact wrap_nat _ (a ^^^ b).isLt
theorem shr_B (a : BitVec 64) (k : Nat) (hk : k ≤ 64) : shrI .u64 a.toNat k = ((a >>> k).toNat : Int) := by
  have : min ((k : Int).toNat) IntKind.u64.bits = k := by simp only [IntKind.bits, Int.toNat_natCast]; omega
  unfold shrI
  rw [this, BitVec.toNat_ushiftRight, Nat.shiftRight_eq_div_pow, Int.fdiv_eq_ediv_of_nonneg _ (by exact_mod_cast Nat.zero_le _)]
  norm_cast
theorem mul_B (a : BitVec 64) (c : Nat) : IntKind.u64.wrap ((a.toNat : Int) * (c : Int)) = ((a * BitVec.ofNat 64 c).toNat : Int) := by
  rw [wrap_u64, BitVec.toNat_mul, BitVec.toNat_ofNat]
  have e : (18446744073709551616 : Int) = ((2 ^ 64 : Nat) : Int) := by decide
  rw [e, ← Int.natCast_mul, ← Int.natCast_emod, Nat.mul_mod_mod]
def stepI (z k c : Int) : Int := IntKind.u64.wrap (Go.bits .xor .u64 z (shrI .u64 z k) * c)
def mixI (z : Int) : Int := Go.bits .xor .u64 (stepI (stepI z 30 13787848793156543929) 27 10723151780598845931) (shrI .u64 (stepI (stepI z 30 13787848793156543929) 27 10723151780598845931) 31)
theorem step_B (z : BitVec 64) (k c : Nat) (hk : k ≤ 64) : stepI z.toNat k c = ((stepB z k (BitVec.ofNat 64 c)).toNat : Int) := by
  unfold stepI stepB
  rw [shr_B z k hk, xor_B, mul_B]
theorem mix_B (z : BitVec 64) : mixI z.toNat = ((mixB z).toNat : Int) := by
  have e1 := step_B z 30 13787848793156543929 (by omega)
  have e2 := step_B (stepB z 30 (BitVec.ofNat 64 13787848793156543929)) 27 10723151780598845931 (by omega)
  unfold mixI mixB lastB
  have e1' : stepI z.toNat 30 13787848793156543929 = ((stepB z 30 13787848793156543929#64).toNat : Int) := e1
  have e2' : stepI ((stepB z 30 13787848793156543929#64).toNat : Int) 27 10723151780598845931 = ((stepB (stepB z 30 13787848793156543929#64) 27 10723151780598845931#64).toNat : Int) := e2
  rw [e1', e2']
  have e3 : shrI .u64 ((stepB (stepB z 30 13787848793156543929#64) 27 10723151780598845931#64).toNat : Int) 31 = _ := shr_B _ 31 (by omega)
  rw [e3, xor_B]
theorem mixI_ne {x y : Int} (hx : 0 ≤ x ∧ x < 18446744073709551616) (hy : 0 ≤ y ∧ y < 18446744073709551616) (h : x ≠ y) : mixI x ≠ mixI y := by
  have key : ∀ z : Int, 0 ≤ z ∧ z < 18446744073709551616 → z = ((BitVec.ofNat 64 z.toNat).toNat : Int) := by
    intro z hz
    rw [BitVec.toNat_ofNat, Nat.mod_eq_of_lt (by omega)]; omega
  intro he
  rw [key x hx, key y hy, mix_B, mix_B] at he
  have := mixB_inj (BitVec.eq_of_toNat_eq (by exact_mod_cast he))
  apply h
  rw [key x hx, key y hy, this]

/-! ### The walks -/
theorem next_ok {s : Int} {h : Heap} : WC Try.prog W0 18 [.int .u64 s] h (fun v h' => v = .tuple #[.int .u64 (IntKind.u64.wrap (s + 11400714819323198485)), .int .u64 (mixI (IntKind.u64.wrap (s + 11400714819323198485)))] ∧ h' = h) := by
  refine start (P := Try.prog) [[0], [0], [0], [0, 4], [0, 4], [0, 4]] (by kernel_rfl) Try.func18 rfl (by decide) (by decide +kernel) (rs := [.tmp 2, .tmp 3]) rfl rfl (Nat.le_of_ble_eq_true rfl) ?_
  repeat (first | rw [kz_o] | rw [kz_r0] | simp -dsimp -implicitDefEqProofs only [go_sem, ↓reduceIte, Nat.reduceEqDiff, Nat.reduceBEq, and_self, decide_true, decide_false, ne_eq, not_false_eq_true, Nat.reduceAdd, Nat.reduceLeDiff, Nat.reduceMul, Nat.zero_add, Nat.add_zero, Nat.mul_one, Int.reduceLE, Int.reduceLT, Int.reduceBEq])
  exact ⟨rfl, rfl⟩
theorem seed_ok {s : Int} {h : Heap} : WC Try.prog W0 16 [.int .i64 s] h (fun v h' => v = .int .u64 (IntKind.u64.wrap s) ∧ h' = h) := by
  refine start (P := Try.prog) [[0], [0]] (by kernel_rfl) Try.func16 rfl (by decide) (by decide +kernel) (rs := [.tmp 2]) rfl rfl (Nat.le_of_ble_eq_true rfl) ?_
  repeat (first | rw [kz_o] | rw [kz_r0] | simp -dsimp -implicitDefEqProofs only [go_sem, ↓reduceIte, Nat.reduceEqDiff, Nat.reduceBEq, and_self, decide_true, decide_false, ne_eq, not_false_eq_true, Nat.reduceAdd, Nat.reduceLeDiff, Nat.reduceMul, Nat.zero_add, Nat.add_zero, Nat.mul_one, Int.reduceLE, Int.reduceLT, Int.reduceBEq])
  exact ⟨rfl, rfl⟩
theorem big_ok {a : Option Addr} {n c : Nat} {h : Heap} : WC Try.prog W0 19 [.slice a n c] h (fun v h' => v = .bool (decide ((1048576 : Int) < n)) ∧ h' = h) := by
  refine start (P := Try.prog) [[0], [0]] (by kernel_rfl) Try.func19 rfl (by decide) (by decide +kernel) (rs := [.tmp 2]) rfl rfl (Nat.le_of_ble_eq_true rfl) ?_
  repeat (first | rw [kz_o] | rw [kz_r0] | simp -dsimp -implicitDefEqProofs only [go_sem, ↓reduceIte, Nat.reduceEqDiff, Nat.reduceBEq, and_self, decide_true, decide_false, ne_eq, not_false_eq_true, Nat.reduceAdd, Nat.reduceLeDiff, Nat.reduceMul, Nat.zero_add, Nat.add_zero, Nat.mul_one, Int.reduceLE, Int.reduceLT, Int.reduceBEq])
  exact ⟨rfl, rfl⟩
theorem law_ok {a : Option Addr} {n c : Nat} {h : Heap} (ro : Row8 h a n) : WC Try.prog W0 5 [.slice a n c] h (fun v h' => v = .bool true) := by
  refine start (P := Try.prog) [[0], [0], [], [0], [3], [3, 4, 5], [3, 4, 5, 6, 7]] (by kernel_rfl) Try.func5 rfl (by decide) (by decide +kernel) (rs := [.tmp 2]) rfl rfl (Nat.le_of_ble_eq_true rfl) ?_
  repeat (first | rw [kz_o] | rw [kz_r0] | simp -dsimp -implicitDefEqProofs only [go_sem, ↓reduceIte, Nat.reduceEqDiff, Nat.reduceBEq, and_self, decide_true, decide_false, ne_eq, not_false_eq_true, Nat.reduceAdd, Nat.reduceLeDiff, Nat.reduceMul, Nat.zero_add, Nat.add_zero, Nat.mul_one, Int.reduceLE, Int.reduceLT, Int.reduceBEq])
  refine wz_intro big_ok ?_
  rintro _ h' ⟨rfl, rfl⟩
  repeat (first | rw [kz_o] | rw [kz_r0] | simp -dsimp -implicitDefEqProofs only [go_sem, ↓reduceIte, Nat.reduceEqDiff, Nat.reduceBEq, and_self, decide_true, decide_false, ne_eq, not_false_eq_true, Nat.reduceAdd, Nat.reduceLeDiff, Nat.reduceMul, Nat.zero_add, Nat.add_zero, Nat.mul_one, Int.reduceLE, Int.reduceLT, Int.reduceBEq])
  refine gz_dec (fun h1 => ?_) (fun h1 => ?_)
  · repeat (first | rw [kz_o] | rw [kz_r0] | simp -dsimp -implicitDefEqProofs only [go_sem, ↓reduceIte, Nat.reduceEqDiff, Nat.reduceBEq, and_self, decide_true, decide_false, ne_eq, not_false_eq_true, Nat.reduceAdd, Nat.reduceLeDiff, Nat.reduceMul, Nat.zero_add, Nat.add_zero, Nat.mul_one, Int.reduceLE, Int.reduceLT, Int.reduceBEq])
    rfl
  · repeat (first | rw [kz_o] | rw [kz_r0] | simp -dsimp -implicitDefEqProofs only [go_sem, ↓reduceIte, Nat.reduceEqDiff, Nat.reduceBEq, and_self, decide_true, decide_false, ne_eq, not_false_eq_true, Nat.reduceAdd, Nat.reduceLeDiff, Nat.reduceMul, Nat.zero_add, Nat.add_zero, Nat.mul_one, Int.reduceLE, Int.reduceLT, Int.reduceBEq])
    refine wz_intro (draw_ok ro) ?_
    rintro _ h' ⟨s, rfl, s0, s1⟩
    repeat (first | rw [kz_o] | rw [kz_r0] | simp -dsimp -implicitDefEqProofs only [go_sem, ↓reduceIte, Nat.reduceEqDiff, Nat.reduceBEq, and_self, decide_true, decide_false, ne_eq, not_false_eq_true, Nat.reduceAdd, Nat.reduceLeDiff, Nat.reduceMul, Nat.zero_add, Nat.add_zero, Nat.mul_one, Int.reduceLE, Int.reduceLT, Int.reduceBEq])
    refine wz_intro next_ok ?_
    rintro _ h' ⟨rfl, rfl⟩
    repeat (first | rw [kz_o] | rw [kz_r0] | simp -dsimp -implicitDefEqProofs only [go_sem, ↓reduceIte, Nat.reduceEqDiff, Nat.reduceBEq, and_self, decide_true, decide_false, ne_eq, not_false_eq_true, Nat.reduceAdd, Nat.reduceLeDiff, Nat.reduceMul, Nat.zero_add, Nat.add_zero, Nat.mul_one, Int.reduceLE, Int.reduceLT, Int.reduceBEq])
    refine wz_intro next_ok ?_
    rintro _ h' ⟨rfl, rfl⟩
    have r1 : ∀ x, 0 ≤ IntKind.u64.wrap x ∧ IntKind.u64.wrap x < 18446744073709551616 := fun x => by rw [wrap_u64]; omega
    have f1 : IntKind.u64.wrap (IntKind.u64.wrap (s + 11400714819323198485) - s) = IntKind.u64.wrap (IntKind.u64.wrap (IntKind.u64.wrap (s + 11400714819323198485) + 11400714819323198485) - IntKind.u64.wrap (s + 11400714819323198485)) := by
      simp only [wrap_u64]; omega
    have f2 : IntKind.u64.wrap (s + 11400714819323198485) ≠ s := by rw [wrap_u64]; omega
    have f3 : mixI (IntKind.u64.wrap (s + 11400714819323198485)) ≠ mixI (IntKind.u64.wrap (IntKind.u64.wrap (s + 11400714819323198485) + 11400714819323198485)) := by
      refine mixI_ne (r1 _) (r1 _) ?_
      simp only [wrap_u64]; omega
    repeat (first | rw [kz_o] | rw [kz_r0] | simp -dsimp -implicitDefEqProofs only [go_sem, ↓reduceIte, Nat.reduceEqDiff, Nat.reduceBEq, and_self, decide_true, decide_false, ne_eq, not_false_eq_true, Nat.reduceAdd, Nat.reduceLeDiff, Nat.reduceMul, Nat.zero_add, Nat.add_zero, Nat.mul_one, Int.reduceLE, Int.reduceLT, Int.reduceBEq, f1, f2, f3, eq_self])
    refine wz_intro seed_ok ?_
    rintro _ h' ⟨rfl, rfl⟩
    have f4 : IntKind.u64.wrap 7 = 7 := by decide
    repeat (first | rw [kz_o] | rw [kz_r0] | simp -dsimp -implicitDefEqProofs only [go_sem, ↓reduceIte, Nat.reduceEqDiff, Nat.reduceBEq, and_self, decide_true, decide_false, ne_eq, not_false_eq_true, Nat.reduceAdd, Nat.reduceLeDiff, Nat.reduceMul, Nat.zero_add, Nat.add_zero, Nat.mul_one, Int.reduceLE, Int.reduceLT, Int.reduceBEq, f4, eq_self])
    rfl
end Go.Ai
