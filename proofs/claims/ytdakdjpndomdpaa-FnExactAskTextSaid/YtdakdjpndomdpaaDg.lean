/- The walk of the law on FnExactAskText. -/
import Derived.Test.YtdakdjpndomdpaaDf
set_option linter.unusedSimpArgs false
set_option linter.unusedVariables false
set_option maxRecDepth 20000
namespace Go.Bi
open Go.Proofs
open Go.Ai (wrap_i64 wrap_u64 wrap_u8)
variable {W0 : World}
theorem FnExactAskText_ok {F0 : Nat → Adr} {c : LAsk} {h : H2} (hf0 : fitAsk c)  : WC2 Try.prog W0 10 [.st (xAsk F0 c)] h (fun v h' => v = .raw (.bool true)) := by
  refine start (P := Try.prog) [[0], [1], [1, 3], [1, 3], [], [1], [1, 4, 5], [1, 4, 5, 6], [1, 4, 5, 6, 7, 8], [], [1, 6], [], []] (by kernel_rfl) Try.func10 rfl (by decide) (by decide +kernel) (rs := [.tmp 2]) rfl rfl (Nat.le_of_ble_eq_true rfl) ?_
  intro wf
  repeat (first | rw [kz_o] | rw [kz_r0] | simp -dsimp -implicitDefEqProofs only [go_sem, ↓reduceIte, Nat.reduceEqDiff, Nat.reduceBEq, and_self, decide_true, decide_false, Bool.not_true, Bool.not_false, ne_eq, not_false_eq_true, Nat.reduceAdd, Nat.reduceLeDiff, Nat.reduceMul, Nat.zero_add, Nat.add_zero, Nat.mul_one, Int.reduceLE, Int.reduceLT, Int.reduceBEq])
  refine pw_intro (szAsk_ok hf0 ⟨by omega, by omega⟩) ?_
  rintro _ n1 hn1 ⟨k1, rfl, hk1⟩
  have hm1 := hn1
  try simp only [hn_push, hn_up] at hm1
  repeat (first | rw [kz_o] | rw [kz_r0] | simp -dsimp -implicitDefEqProofs only [go_sem, ↓reduceIte, Nat.reduceEqDiff, Nat.reduceBEq, and_self, decide_true, decide_false, Bool.not_true, Bool.not_false, ne_eq, not_false_eq_true, Nat.reduceAdd, Nat.reduceLeDiff, Nat.reduceMul, Nat.zero_add, Nat.add_zero, Nat.mul_one, Int.reduceLE, Int.reduceLT, Int.reduceBEq, hoo])
  refine gz_dec (fun q2 => ?_) (fun q2 => ?_)
  · repeat (first | rw [kz_o] | rw [kz_r0] | simp -dsimp -implicitDefEqProofs only [go_sem, ↓reduceIte, Nat.reduceEqDiff, Nat.reduceBEq, and_self, decide_true, decide_false, Bool.not_true, Bool.not_false, ne_eq, not_false_eq_true, Nat.reduceAdd, Nat.reduceLeDiff, Nat.reduceMul, Nat.zero_add, Nat.add_zero, Nat.mul_one, Int.reduceLE, Int.reduceLT, Int.reduceBEq])
    rfl
  have hsz_c : szAsk c ≤ 1048576 := by omega
  have hln_c : c.text.size ≤ 1048576 ∧ c.config.stops.length ≤ 1048576 ∧ c.picks.length ≤ 1048576 := by simp only [szAsk, szConfig] at hsz_c; omega
  have hct_c : cntAsk c ≤ 16777216 := by simp only [cntAsk, cntConfig]; omega
  repeat (first | rw [kz_o] | rw [kz_r0] | simp -dsimp -implicitDefEqProofs only [go_sem, ↓reduceIte, Nat.reduceEqDiff, Nat.reduceBEq, and_self, decide_true, decide_false, Bool.not_true, Bool.not_false, ne_eq, not_false_eq_true, Nat.reduceAdd, Nat.reduceLeDiff, Nat.reduceMul, Nat.zero_add, Nat.add_zero, Nat.mul_one, Int.reduceLE, Int.reduceLT, Int.reduceBEq, hoo])
  refine wz_intro (toAsk_ok (by omega)) ?_
  rintro _ g3 ⟨l3, ys3, b3, rfl, o3, bl3⟩
  try simp only [hn_push, hn_up] at bl3
  have nn3 := l3.n
  try simp only [hn_push, hn_up] at nn3
  have LL3 : h.le g3 := H2.le.trans (by repeat (first | exact H2.le.refl _ | apply le_push | refine le_up ?_ (by assumption))) l3
  have ln3 := LL3.n
  have row0 : hg g3 (hn h .mk) .mk = some ⟨8, xAsk F0 c⟩ := (l3.2 (hn h .mk) (by simp only [hn_push, hn_up]; omega)).trans (by simp -dsimp -implicitDefEqProofs only [go_sem, ↓reduceIte, Nat.reduceEqDiff, Nat.reduceBEq, and_self, decide_true, decide_false, Bool.not_true, Bool.not_false, ne_eq, not_false_eq_true, Nat.reduceAdd, Nat.reduceLeDiff, Nat.reduceMul, Nat.zero_add, Nat.add_zero, Nat.mul_one, Int.reduceLE, Int.reduceLT, Int.reduceBEq, hoo])
  obtain ⟨b3_6, s3_6, b3_7, s3_7, rfl, rfl, o3_6, o3_7⟩ := invAsk o3
  clear o3
  have bl3_6 := bl3.split.1
  have ce3_6 := OT.cell o3_6
  have bl3_7 := bl3.split.2.1
  have ce3_7 := OT.cell o3_7
  repeat (first | rw [kz_o] | rw [kz_r0] | simp -dsimp -implicitDefEqProofs only [go_sem, ↓reduceIte, Nat.reduceEqDiff, Nat.reduceBEq, and_self, decide_true, decide_false, Bool.not_true, Bool.not_false, ne_eq, not_false_eq_true, Nat.reduceAdd, Nat.reduceLeDiff, Nat.reduceMul, Nat.zero_add, Nat.add_zero, Nat.mul_one, Int.reduceLE, Int.reduceLT, Int.reduceBEq, ce3_6, ce3_7, row0, hoo])
  refine wz_intro (specAskText_tree (outAsk (c := c) (o3_6.keep (by repeat (first | exact H2.le.refl _ | apply le_push | refine le_up ?_ (by assumption))) (bl3_6.wide (Nat.le_refl _) (by omega))) (o3_7.keep (by repeat (first | exact H2.le.refl _ | apply le_push | refine le_up ?_ (by assumption))) (bl3_7.wide (Nat.le_refl _) (by omega)))) hf0) ?_
  rintro _ g4 ⟨l4, rfl⟩
  have nn4 := l4.n
  try simp only [hn_push, hn_up] at nn4
  have LL4 : g3.le g4 := H2.le.trans (by repeat (first | exact H2.le.refl _ | apply le_push | refine le_up ?_ (by assumption))) l4
  have ln4 := LL4.n
  replace o3_6 := o3_6.keep LL4 (bl3_6.wide (Nat.le_refl _) (by omega))
  replace o3_7 := o3_7.keep LL4 (bl3_7.wide (Nat.le_refl _) (by omega))
  replace row0 := (LL4.2 (hn h .mk) (by omega)).trans row0
  repeat (first | rw [kz_o] | rw [kz_r0] | simp -dsimp -implicitDefEqProofs only [go_sem, ↓reduceIte, Nat.reduceEqDiff, Nat.reduceBEq, and_self, decide_true, decide_false, Bool.not_true, Bool.not_false, ne_eq, not_false_eq_true, Nat.reduceAdd, Nat.reduceLeDiff, Nat.reduceMul, Nat.zero_add, Nat.add_zero, Nat.mul_one, Int.reduceLE, Int.reduceLT, Int.reduceBEq, row0, hoo])
  refine wz_intro (toAsk_ok (by omega)) ?_
  rintro _ g5 ⟨l5, ys5, b5, rfl, o5, bl5⟩
  try simp only [hn_push, hn_up] at bl5
  have nn5 := l5.n
  try simp only [hn_push, hn_up] at nn5
  have LL5 : g4.le g5 := H2.le.trans (by repeat (first | exact H2.le.refl _ | apply le_push | refine le_up ?_ (by assumption))) l5
  have ln5 := LL5.n
  replace row0 := (LL5.2 (hn h .mk) (by omega)).trans row0
  obtain ⟨b5_6, s5_6, b5_7, s5_7, rfl, rfl, o5_6, o5_7⟩ := invAsk o5
  clear o5
  have bl5_6 := bl5.split.1
  have ce5_6 := OT.cell o5_6
  have bl5_7 := bl5.split.2.1
  have ce5_7 := OT.cell o5_7
  repeat (first | rw [kz_o] | rw [kz_r0] | simp -dsimp -implicitDefEqProofs only [go_sem, ↓reduceIte, Nat.reduceEqDiff, Nat.reduceBEq, and_self, decide_true, decide_false, Bool.not_true, Bool.not_false, ne_eq, not_false_eq_true, Nat.reduceAdd, Nat.reduceLeDiff, Nat.reduceMul, Nat.zero_add, Nat.add_zero, Nat.mul_one, Int.reduceLE, Int.reduceLT, Int.reduceBEq, ce5_6, ce5_7, row0, hoo])
  refine wz_intro (implAskText_tree (outAsk (c := c) (o5_6.keep (by repeat (first | exact H2.le.refl _ | apply le_push | refine le_up ?_ (by assumption))) (bl5_6.wide (Nat.le_refl _) (by omega))) (o5_7.keep (by repeat (first | exact H2.le.refl _ | apply le_push | refine le_up ?_ (by assumption))) (bl5_7.wide (Nat.le_refl _) (by omega)))) hf0) ?_
  rintro _ g6 ⟨l6, rfl⟩
  have nn6 := l6.n
  try simp only [hn_push, hn_up] at nn6
  have LL6 : g5.le g6 := H2.le.trans (by repeat (first | exact H2.le.refl _ | apply le_push | refine le_up ?_ (by assumption))) l6
  have ln6 := LL6.n
  replace o5_6 := o5_6.keep LL6 (bl5_6.wide (Nat.le_refl _) (by omega))
  replace o5_7 := o5_7.keep LL6 (bl5_7.wide (Nat.le_refl _) (by omega))
  replace row0 := (LL6.2 (hn h .mk) (by omega)).trans row0
  have row1 : hg g6 (hn g5 .mk) .mk = some ⟨8, [.raw (.int .i64 c.op), .raw (.string c.text), .raw (.int .i64 c.pos), .raw (.int .i64 c.config.top), .raw (.int .i64 c.config.seed), .raw (.int .i64 c.config.new), s5_6, s5_7]⟩ := (l6.2 (hn g5 .mk) (by simp only [hn_push, hn_up]; omega)).trans (by simp -dsimp -implicitDefEqProofs only [go_sem, ↓reduceIte, Nat.reduceEqDiff, Nat.reduceBEq, and_self, decide_true, decide_false, Bool.not_true, Bool.not_false, ne_eq, not_false_eq_true, Nat.reduceAdd, Nat.reduceLeDiff, Nat.reduceMul, Nat.zero_add, Nat.add_zero, Nat.mul_one, Int.reduceLE, Int.reduceLT, Int.reduceBEq, ce5_6, ce5_7, row0, hoo])
  repeat (first | rw [kz_o] | rw [kz_r0] | simp -dsimp -implicitDefEqProofs only [go_sem, ↓reduceIte, Nat.reduceEqDiff, Nat.reduceBEq, and_self, decide_true, decide_false, Bool.not_true, Bool.not_false, ne_eq, not_false_eq_true, Nat.reduceAdd, Nat.reduceLeDiff, Nat.reduceMul, Nat.zero_add, Nat.add_zero, Nat.mul_one, Int.reduceLE, Int.reduceLT, Int.reduceBEq, ce5_6, ce5_7, row0, row1, hoo])
  refine dq_intro [(0, []), (1, []), (2, [0]), (3, []), (4, [])] (by kernel_rfl) ?_
  repeat (first | rw [kz_o] | rw [kz_r0] | simp -dsimp -implicitDefEqProofs only [go_sem, ↓reduceIte, Nat.reduceEqDiff, Nat.reduceBEq, and_self, decide_true, decide_false, Bool.not_true, Bool.not_false, ne_eq, not_false_eq_true, Nat.reduceAdd, Nat.reduceLeDiff, Nat.reduceMul, Nat.zero_add, Nat.add_zero, Nat.mul_one, Int.reduceLE, Int.reduceLT, Int.reduceBEq, ce5_6, ce5_7, row0, row1, hoo])
  refine wz_intro (toAsk_ok (by omega)) ?_
  rintro _ g7 ⟨l7, ys7, b7, rfl, o7, bl7⟩
  try simp only [hn_push, hn_up] at bl7
  have nn7 := l7.n
  try simp only [hn_push, hn_up] at nn7
  have LL7 : g6.le g7 := H2.le.trans (by repeat (first | exact H2.le.refl _ | apply le_push | refine le_up ?_ (by assumption))) l7
  have ln7 := LL7.n
  replace o5_6 := o5_6.keep LL7 (bl5_6.wide (Nat.le_refl _) (by omega))
  replace o5_7 := o5_7.keep LL7 (bl5_7.wide (Nat.le_refl _) (by omega))
  replace row0 := (LL7.2 (hn h .mk) (by omega)).trans row0
  replace row1 := (LL7.2 (hn g5 .mk) (by omega)).trans row1
  obtain ⟨b7_6, s7_6, b7_7, s7_7, rfl, rfl, o7_6, o7_7⟩ := invAsk o7
  clear o7
  have bl7_6 := bl7.split.1
  have ce7_6 := OT.cell o7_6
  have bl7_7 := bl7.split.2.1
  have ce7_7 := OT.cell o7_7
  rw [kz_r]
  refine ⟨by simp -dsimp -implicitDefEqProofs only [go_sem, ↓reduceIte, Nat.reduceEqDiff, Nat.reduceBEq, and_self, decide_true, decide_false, Bool.not_true, Bool.not_false, ne_eq, not_false_eq_true, Nat.reduceAdd, Nat.reduceLeDiff, Nat.reduceMul, Nat.zero_add, Nat.add_zero, Nat.mul_one, Int.reduceLE, Int.reduceLT, Int.reduceBEq, ce5_6, ce5_7, ce7_6, ce7_7, row0, row1, hoo], ?_⟩
  repeat (first | rw [kz_o] | rw [kz_r0] | simp -dsimp -implicitDefEqProofs only [go_sem, ↓reduceIte, Nat.reduceEqDiff, Nat.reduceBEq, and_self, decide_true, decide_false, Bool.not_true, Bool.not_false, ne_eq, not_false_eq_true, Nat.reduceAdd, Nat.reduceLeDiff, Nat.reduceMul, Nat.zero_add, Nat.add_zero, Nat.mul_one, Int.reduceLE, Int.reduceLT, Int.reduceBEq, ce5_6, ce5_7, ce7_6, ce7_7, row0, row1, hoo])
  refine pw_intro (eqAsk_tree (outAsk (c := c) (o5_6.keep (by repeat (first | exact H2.le.refl _ | apply le_push | refine le_up ?_ (by assumption))) (bl5_6.wide (Nat.le_refl _) (by omega))) (o5_7.keep (by repeat (first | exact H2.le.refl _ | apply le_push | refine le_up ?_ (by assumption))) (bl5_7.wide (Nat.le_refl _) (by omega)))) (outAsk (c := c) (o7_6.keep (by repeat (first | exact H2.le.refl _ | apply le_push | refine le_up ?_ (by assumption))) (bl7_6.wide (Nat.le_refl _) (by omega))) (o7_7.keep (by repeat (first | exact H2.le.refl _ | apply le_push | refine le_up ?_ (by assumption))) (bl7_7.wide (Nat.le_refl _) (by omega)))) hf0) ?_
  rintro _ n8 hn8 rfl
  have hm8 := hn8
  try simp only [hn_push, hn_up] at hm8
  repeat (first | rw [kz_o] | rw [kz_r0] | simp -dsimp -implicitDefEqProofs only [go_sem, ↓reduceIte, Nat.reduceEqDiff, Nat.reduceBEq, and_self, decide_true, decide_false, Bool.not_true, Bool.not_false, ne_eq, not_false_eq_true, Nat.reduceAdd, Nat.reduceLeDiff, Nat.reduceMul, Nat.zero_add, Nat.add_zero, Nat.mul_one, Int.reduceLE, Int.reduceLT, Int.reduceBEq, ce5_6, ce5_7, row0, row1, hoo])
  rfl
end Go.Bi
