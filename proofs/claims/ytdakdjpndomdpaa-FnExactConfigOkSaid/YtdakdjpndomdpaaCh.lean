/- The walk of the law on ConfigOk. -/
import Derived.Test.YtdakdjpndomdpaaCg
set_option linter.unusedSimpArgs false
set_option linter.unusedVariables false
set_option maxRecDepth 20000
namespace Go.Ai
open Go.Proofs
variable {W0 : World}
theorem Row1.texts {ss : List ByteArray} {n z : Nat} {b : Nat} {h : Heap} (hb : hg h b .mk = some ⟨true, z, ss.map .string⟩) (hlt : b < hn h .mk) (e : n = ss.length) : Row1 h (some ⟨b, 0, none⟩) n (ss.map .string) :=
  ⟨by simpa using e, fun i hi => ⟨b, 0, true, z, _, rfl, hb, hlt, by simp⟩⟩
theorem lawConfigOk_ok {a : Option Addr} {n c : Nat} {ss : List ByteArray} {h : Heap} {top seed new : Int} (r : Row1 h a n (ss.map .string)) (hn0 : n ≤ 9223372036854775807) :
    WC Try.prog W0 6 [cfgV top seed new a n c] h (fun v h' => v = .bool true) := by
  have hoo : ∀ x : Nat, (x == x) = true := by simp
  have e1 : n = ss.length := by have := r.1; simpa using this
  refine start (P := Try.prog) [[0], [1], [1, 3], [1, 3], [], [1], [1, 4], [1, 4, 5], [1, 4, 5, 6], [], [1, 5], [], []] (by kernel_rfl) Try.func6 rfl (by decide) (by decide +kernel) (rs := [.tmp 2]) rfl rfl (Nat.le_of_ble_eq_true rfl) ?_
  unfold cfgV
  repeat (first | rw [kz_o] | rw [kz_r0] | simp -dsimp -implicitDefEqProofs only [go_sem, ↓reduceIte, Nat.reduceEqDiff, Nat.reduceBEq, and_self, decide_true, decide_false, ne_eq, not_false_eq_true, Nat.reduceAdd, Nat.reduceLeDiff, Nat.reduceMul, Nat.zero_add, Nat.add_zero, Nat.mul_one, Int.reduceLE, Int.reduceLT, Int.reduceBEq, hoo])
  have l0 : h.le (h.push ⟨true, 4, [.int .i64 top, .int .i64 seed, .int .i64 new, .slice a n c]⟩) := Heap.le_push _ _
  have g0 : hg (h.push ⟨true, 4, [.int .i64 top, .int .i64 seed, .int .i64 new, .slice a n c]⟩) (hn h .mk) .mk = some ⟨true, 4, [.int .i64 top, .int .i64 seed, .int .i64 new, .slice a n c]⟩ := by simp -dsimp -implicitDefEqProofs only [go_sem, ↓reduceIte, Nat.reduceEqDiff, Nat.reduceBEq, and_self, decide_true, decide_false, ne_eq, not_false_eq_true, Nat.reduceAdd, Nat.reduceLeDiff, Nat.reduceMul, Nat.zero_add, Nat.add_zero, Nat.mul_one, Int.reduceLE, Int.reduceLT, Int.reduceBEq, hoo]
  have b0 : hn h .mk < hn (h.push ⟨true, 4, [.int .i64 top, .int .i64 seed, .int .i64 new, .slice a n c]⟩) .mk := by simp -dsimp -implicitDefEqProofs only [go_sem, ↓reduceIte, Nat.reduceEqDiff, Nat.reduceBEq, and_self, decide_true, decide_false, ne_eq, not_false_eq_true, Nat.reduceAdd, Nat.reduceLeDiff, Nat.reduceMul, Nat.zero_add, Nat.add_zero, Nat.mul_one, Int.reduceLE, Int.reduceLT, Int.reduceBEq]
  generalize h.push ⟨true, 4, [.int .i64 top, .int .i64 seed, .int .i64 new, .slice a n c]⟩ = hA at l0 g0 b0 ⊢
  generalize hn h .mk = B at g0 b0 ⊢
  replace r := r.mono l0
  refine wz_intro (szConfig_ok r hn0 (by omega)) ?_
  rintro _ h1 ⟨⟨k, rfl, hk⟩, l1⟩
  repeat (first | rw [kz_o] | rw [kz_r0] | simp -dsimp -implicitDefEqProofs only [go_sem, ↓reduceIte, Nat.reduceEqDiff, Nat.reduceBEq, and_self, decide_true, decide_false, ne_eq, not_false_eq_true, Nat.reduceAdd, Nat.reduceLeDiff, Nat.reduceMul, Nat.zero_add, Nat.add_zero, Nat.mul_one, Int.reduceLE, Int.reduceLT, Int.reduceBEq])
  refine gz_dec (fun c1 => ?_) (fun c1 => ?_)
  · repeat (first | rw [kz_o] | rw [kz_r0] | simp -dsimp -implicitDefEqProofs only [go_sem, ↓reduceIte, Nat.reduceEqDiff, Nat.reduceBEq, and_self, decide_true, decide_false, ne_eq, not_false_eq_true, Nat.reduceAdd, Nat.reduceLeDiff, Nat.reduceMul, Nat.zero_add, Nat.add_zero, Nat.mul_one, Int.reduceLE, Int.reduceLT, Int.reduceBEq])
    rfl
  have hn1 : n ≤ 1048576 := by have := hk (by omega); omega
  replace g0 := (l1.keep B b0).trans g0
  replace b0 := Nat.lt_of_lt_of_le b0 l1.n
  replace r := r.mono l1
  repeat (first | rw [kz_o] | rw [kz_r0] | simp -dsimp -implicitDefEqProofs only [go_sem, ↓reduceIte, Nat.reduceEqDiff, Nat.reduceBEq, and_self, decide_true, decide_false, ne_eq, not_false_eq_true, Nat.reduceAdd, Nat.reduceLeDiff, Nat.reduceMul, Nat.zero_add, Nat.add_zero, Nat.mul_one, Int.reduceLE, Int.reduceLT, Int.reduceBEq, g0])
  refine wz_intro (toConfig_ok r hn1) ?_
  rintro _ h2 ⟨⟨b1, rfl, _, b1', g1⟩, l2⟩
  replace g0 := (l2.keep B b0).trans g0
  replace b0 := Nat.lt_of_lt_of_le b0 l2.n
  replace r := r.mono l2
  repeat (first | rw [kz_o] | rw [kz_r0] | simp -dsimp -implicitDefEqProofs only [go_sem, ↓reduceIte, Nat.reduceEqDiff, Nat.reduceBEq, and_self, decide_true, decide_false, ne_eq, not_false_eq_true, Nat.reduceAdd, Nat.reduceLeDiff, Nat.reduceMul, Nat.zero_add, Nat.add_zero, Nat.mul_one, Int.reduceLE, Int.reduceLT, Int.reduceBEq])
  refine wz_intro (specConfigOk_ok (ss := ss) (Row1.texts g1 b1' e1) hn0) ?_
  rintro _ h3 ⟨rfl, l3⟩
  replace g0 := (l3.keep B b0).trans g0
  replace b0 := Nat.lt_of_lt_of_le b0 l3.n
  replace r := r.mono l3
  repeat (first | rw [kz_o] | rw [kz_r0] | simp -dsimp -implicitDefEqProofs only [go_sem, ↓reduceIte, Nat.reduceEqDiff, Nat.reduceBEq, and_self, decide_true, decide_false, ne_eq, not_false_eq_true, Nat.reduceAdd, Nat.reduceLeDiff, Nat.reduceMul, Nat.zero_add, Nat.add_zero, Nat.mul_one, Int.reduceLE, Int.reduceLT, Int.reduceBEq, g0])
  refine wz_intro (toConfig_ok r hn1) ?_
  rintro _ h4 ⟨⟨b2, rfl, _, b2', g2⟩, l4⟩
  replace g0 := (l4.keep B b0).trans g0
  replace b0 := Nat.lt_of_lt_of_le b0 l4.n
  replace r := r.mono l4
  unfold cfgV
  have hBn : (B == hn h4 .mk) = false := beq_lt b0
  have hbn : (b2 == hn h4 .mk) = false := beq_lt b2'
  repeat (first | rw [kz_o] | rw [kz_r0] | simp -dsimp -implicitDefEqProofs only [go_sem, ↓reduceIte, Nat.reduceEqDiff, Nat.reduceBEq, and_self, decide_true, decide_false, ne_eq, not_false_eq_true, Nat.reduceAdd, Nat.reduceLeDiff, Nat.reduceMul, Nat.zero_add, Nat.add_zero, Nat.mul_one, Int.reduceLE, Int.reduceLT, Int.reduceBEq, hoo])
  have l5 : h4.le (h4.push ⟨true, 4, [.int .i64 top, .int .i64 seed, .int .i64 new, .slice (some ⟨b2, 0, none⟩) n n]⟩) := Heap.le_push _ _
  have g3 : hg (h4.push ⟨true, 4, [.int .i64 top, .int .i64 seed, .int .i64 new, .slice (some ⟨b2, 0, none⟩) n n]⟩) (hn h4 .mk) .mk = some ⟨true, 4, [.int .i64 top, .int .i64 seed, .int .i64 new, .slice (some ⟨b2, 0, none⟩) n n]⟩ := by simp -dsimp -implicitDefEqProofs only [go_sem, ↓reduceIte, Nat.reduceEqDiff, Nat.reduceBEq, and_self, decide_true, decide_false, ne_eq, not_false_eq_true, Nat.reduceAdd, Nat.reduceLeDiff, Nat.reduceMul, Nat.zero_add, Nat.add_zero, Nat.mul_one, Int.reduceLE, Int.reduceLT, Int.reduceBEq, hoo]
  have b3 : hn h4 .mk < hn (h4.push ⟨true, 4, [.int .i64 top, .int .i64 seed, .int .i64 new, .slice (some ⟨b2, 0, none⟩) n n]⟩) .mk := by simp -dsimp -implicitDefEqProofs only [go_sem, ↓reduceIte, Nat.reduceEqDiff, Nat.reduceBEq, and_self, decide_true, decide_false, ne_eq, not_false_eq_true, Nat.reduceAdd, Nat.reduceLeDiff, Nat.reduceMul, Nat.zero_add, Nat.add_zero, Nat.mul_one, Int.reduceLE, Int.reduceLT, Int.reduceBEq]
  generalize h4.push ⟨true, 4, [.int .i64 top, .int .i64 seed, .int .i64 new, .slice (some ⟨b2, 0, none⟩) n n]⟩ = h5 at l5 g3 b3 ⊢
  replace g0 := (l5.keep B b0).trans g0
  replace g2 := (l5.keep b2 b2').trans g2
  replace b0 := Nat.lt_of_lt_of_le b0 l5.n
  replace b2' := Nat.lt_of_lt_of_le b2' l5.n
  replace r := r.mono l5
  generalize hn h4 .mk = C at g3 b3 ⊢
  refine wz_intro (implConfigOk_ok (Row1.texts g2 b2' e1) hn0) ?_
  rintro _ h6 ⟨rfl, l6⟩
  replace g0 := (l6.keep B b0).trans g0
  replace g2 := (l6.keep b2 b2').trans g2
  replace g3 := (l6.keep C b3).trans g3
  replace b0 := Nat.lt_of_lt_of_le b0 l6.n
  replace b2' := Nat.lt_of_lt_of_le b2' l6.n
  replace b3 := Nat.lt_of_lt_of_le b3 l6.n
  replace r := r.mono l6
  have hxx : ∀ x : Bool, (!(x == x)) = false := by simp
  repeat (first | rw [kz_o] | rw [kz_r0] | simp -dsimp -implicitDefEqProofs only [go_sem, ↓reduceIte, Nat.reduceEqDiff, Nat.reduceBEq, and_self, decide_true, decide_false, ne_eq, not_false_eq_true, Nat.reduceAdd, Nat.reduceLeDiff, Nat.reduceMul, Nat.zero_add, Nat.add_zero, Nat.mul_one, Int.reduceLE, Int.reduceLT, Int.reduceBEq, hxx])
  refine dq_intro [(0, []), (1, []), (2, [0]), (3, []), (4, [])] (by kernel_rfl) ?_
  repeat (first | rw [kz_o] | rw [kz_r0] | simp -dsimp -implicitDefEqProofs only [go_sem, ↓reduceIte, Nat.reduceEqDiff, Nat.reduceBEq, and_self, decide_true, decide_false, ne_eq, not_false_eq_true, Nat.reduceAdd, Nat.reduceLeDiff, Nat.reduceMul, Nat.zero_add, Nat.add_zero, Nat.mul_one, Int.reduceLE, Int.reduceLT, Int.reduceBEq, g0, g3])
  refine wz_intro (toConfig_ok r hn1) ?_
  rintro _ h7 ⟨⟨b4, rfl, _, b4', g4⟩, l7⟩
  replace g0 := (l7.keep B b0).trans g0
  replace g2 := (l7.keep b2 b2').trans g2
  replace g3 := (l7.keep C b3).trans g3
  replace b2' := Nat.lt_of_lt_of_le b2' l7.n
  repeat (first | rw [kz_o] | rw [kz_r0] | simp -dsimp -implicitDefEqProofs only [go_sem, ↓reduceIte, Nat.reduceEqDiff, Nat.reduceBEq, and_self, decide_true, decide_false, ne_eq, not_false_eq_true, Nat.reduceAdd, Nat.reduceLeDiff, Nat.reduceMul, Nat.zero_add, Nat.add_zero, Nat.mul_one, Int.reduceLE, Int.reduceLT, Int.reduceBEq])
  refine ⟨?_, ?_⟩
  · intro x hx
    simp at hx
    subst hx
    simp -dsimp -implicitDefEqProofs only [go_sem, ↓reduceIte, Nat.reduceEqDiff, Nat.reduceBEq, and_self, decide_true, decide_false, ne_eq, not_false_eq_true, Nat.reduceAdd, Nat.reduceLeDiff, Nat.reduceMul, Nat.zero_add, Nat.add_zero, Nat.mul_one, Int.reduceLE, Int.reduceLT, Int.reduceBEq, g3]
  repeat (first | rw [kz_o] | rw [kz_r0] | simp -dsimp -implicitDefEqProofs only [go_sem, ↓reduceIte, Nat.reduceEqDiff, Nat.reduceBEq, and_self, decide_true, decide_false, ne_eq, not_false_eq_true, Nat.reduceAdd, Nat.reduceLeDiff, Nat.reduceMul, Nat.zero_add, Nat.add_zero, Nat.mul_one, Int.reduceLE, Int.reduceLT, Int.reduceBEq])
  refine wz_intro (eqConfig_ok (Row1.texts g2 b2' e1) (Row1.texts g4 b4' e1) hn0) ?_
  rintro _ h8 ⟨⟨q, rfl, hq⟩, l8⟩
  have hq := hq ⟨rfl, rfl, rfl, rfl⟩
  subst hq
  repeat (first | rw [kz_o] | rw [kz_r0] | simp -dsimp -implicitDefEqProofs only [go_sem, ↓reduceIte, Nat.reduceEqDiff, Nat.reduceBEq, and_self, decide_true, decide_false, ne_eq, not_false_eq_true, Nat.reduceAdd, Nat.reduceLeDiff, Nat.reduceMul, Nat.zero_add, Nat.add_zero, Nat.mul_one, Int.reduceLE, Int.reduceLT, Int.reduceBEq, Bool.not_true])
  rfl
end Go.Ai
