/- The walk of the law on FnExactGotOf. -/
import Derived.Test.YtdakdjpndomdpaaCa
set_option linter.unusedSimpArgs false
set_option linter.unusedVariables false
set_option maxRecDepth 20000
namespace Go.Bi
open Go.Proofs
open Go.Ai (wrap_i64 wrap_u64 wrap_u8)
variable {W0 : World}
theorem FnExactGotOf_ok {F0 : Nat → Adr} {c : LRequest} {h : H2} (hf0 : fitRequest c)  : WC2 Try.prog W0 9 [.st (xRequest F0 c)] h (fun v h' => v = .raw (.bool true)) := by
  refine start (P := Try.prog) [[0], [1], [1, 3], [1, 3], [], [1], [1, 4], [1, 4, 5], [1, 4, 5, 6], [], [1, 4, 5, 6], [], [1, 4, 5, 6], [1, 4, 5, 6, 7], [1, 4, 6, 7], [], [1, 4, 6], [1, 4, 6, 8], [1, 4, 6, 8], [1, 4, 6, 8, 9], [1, 4, 6, 8, 9], [], [1, 4, 6, 8, 9], [], [1, 4, 6, 8], [4, 6, 8, 10], [], [6, 8], [6, 8, 9], [8, 9], [], [8, 9], [], []] (by kernel_rfl) Try.func9 rfl (by decide) (by decide +kernel) (rs := [.tmp 2]) rfl rfl (Nat.le_of_ble_eq_true rfl) ?_
  intro wf
  repeat (first | rw [kz_o] | rw [kz_r0] | simp -dsimp -implicitDefEqProofs only [go_sem, ↓reduceIte, Nat.reduceEqDiff, Nat.reduceBEq, and_self, decide_true, decide_false, Bool.not_true, Bool.not_false, ne_eq, not_false_eq_true, Nat.reduceAdd, Nat.reduceLeDiff, Nat.reduceMul, Nat.zero_add, Nat.add_zero, Nat.mul_one, Int.reduceLE, Int.reduceLT, Int.reduceBEq])
  refine pw_intro (szRequest_ok hf0 ⟨by omega, by omega⟩) ?_
  rintro _ n1 hn1 ⟨k1, rfl, hk1⟩
  have hm1 := hn1
  try simp only [hn_push, hn_up] at hm1
  repeat (first | rw [kz_o] | rw [kz_r0] | simp -dsimp -implicitDefEqProofs only [go_sem, ↓reduceIte, Nat.reduceEqDiff, Nat.reduceBEq, and_self, decide_true, decide_false, Bool.not_true, Bool.not_false, ne_eq, not_false_eq_true, Nat.reduceAdd, Nat.reduceLeDiff, Nat.reduceMul, Nat.zero_add, Nat.add_zero, Nat.mul_one, Int.reduceLE, Int.reduceLT, Int.reduceBEq, hoo])
  refine gz_dec (fun q2 => ?_) (fun q2 => ?_)
  · repeat (first | rw [kz_o] | rw [kz_r0] | simp -dsimp -implicitDefEqProofs only [go_sem, ↓reduceIte, Nat.reduceEqDiff, Nat.reduceBEq, and_self, decide_true, decide_false, Bool.not_true, Bool.not_false, ne_eq, not_false_eq_true, Nat.reduceAdd, Nat.reduceLeDiff, Nat.reduceMul, Nat.zero_add, Nat.add_zero, Nat.mul_one, Int.reduceLE, Int.reduceLT, Int.reduceBEq])
    rfl
  have hsz_c : szRequest c ≤ 1048576 := by omega
  have hln_c : c.tokens.length ≤ 1048576 ∧ c.config.stops.length ≤ 1048576 ∧ c.table.pages.length ≤ 1048576 := by simp only [szRequest, szConfig, szTable] at hsz_c; omega
  have hct_c : cntRequest c ≤ 16777216 := by simp only [cntRequest, cntConfig, cntTable]; omega
  have hgl := gotI_len (c := c)
  repeat (first | rw [kz_o] | rw [kz_r0] | simp -dsimp -implicitDefEqProofs only [go_sem, ↓reduceIte, Nat.reduceEqDiff, Nat.reduceBEq, and_self, decide_true, decide_false, Bool.not_true, Bool.not_false, ne_eq, not_false_eq_true, Nat.reduceAdd, Nat.reduceLeDiff, Nat.reduceMul, Nat.zero_add, Nat.add_zero, Nat.mul_one, Int.reduceLE, Int.reduceLT, Int.reduceBEq, hoo])
  refine wz_intro (toRequest_ok (by omega)) ?_
  rintro _ g3 ⟨l3, ys3, b3, rfl, o3, bl3⟩
  try simp only [hn_push, hn_up] at bl3
  have nn3 := l3.n
  try simp only [hn_push, hn_up] at nn3
  have LL3 : h.le g3 := H2.le.trans (by repeat (first | exact H2.le.refl _ | apply le_push | refine le_up ?_ (by assumption))) l3
  have ln3 := LL3.n
  have row0 : hg g3 (hn h .mk) .mk = some ⟨10, xRequest F0 c⟩ := (l3.2 (hn h .mk) (by simp only [hn_push, hn_up]; omega)).trans (by simp -dsimp -implicitDefEqProofs only [go_sem, ↓reduceIte, Nat.reduceEqDiff, Nat.reduceBEq, and_self, decide_true, decide_false, Bool.not_true, Bool.not_false, ne_eq, not_false_eq_true, Nat.reduceAdd, Nat.reduceLeDiff, Nat.reduceMul, Nat.zero_add, Nat.add_zero, Nat.mul_one, Int.reduceLE, Int.reduceLT, Int.reduceBEq, hoo])
  obtain ⟨b3_1, s3_1, b3_5, s3_5, b3_7, s3_7, rfl, rfl, o3_1, o3_5, o3_7⟩ := invRequest o3
  clear o3
  have bl3_1 := bl3.split.1
  have ce3_1 := OT.cell o3_1
  have bl3_5 := bl3.split.2.1.split.1
  have ce3_5 := OT.cell o3_5
  have bl3_7 := bl3.split.2.1.split.2.1
  have ce3_7 := OT.cell o3_7
  repeat (first | rw [kz_o] | rw [kz_r0] | simp -dsimp -implicitDefEqProofs only [go_sem, ↓reduceIte, Nat.reduceEqDiff, Nat.reduceBEq, and_self, decide_true, decide_false, Bool.not_true, Bool.not_false, ne_eq, not_false_eq_true, Nat.reduceAdd, Nat.reduceLeDiff, Nat.reduceMul, Nat.zero_add, Nat.add_zero, Nat.mul_one, Int.reduceLE, Int.reduceLT, Int.reduceBEq, ce3_1, ce3_5, ce3_7, row0, hoo])
  refine wz_intro (specGotOf_tree (outRequest (c := c) (o3_1.keep (by repeat (first | exact H2.le.refl _ | apply le_push | refine le_up ?_ (by assumption))) (bl3_1.wide (Nat.le_refl _) (by omega))) (o3_5.keep (by repeat (first | exact H2.le.refl _ | apply le_push | refine le_up ?_ (by assumption))) (bl3_5.wide (Nat.le_refl _) (by omega))) (o3_7.keep (by repeat (first | exact H2.le.refl _ | apply le_push | refine le_up ?_ (by assumption))) (bl3_7.wide (Nat.le_refl _) (by omega)))) (by omega)) ?_
  rintro s4 g4 ⟨l4, b4, o4, bl4⟩
  try simp only [hn_push, hn_up] at bl4
  have nn4 := l4.n
  try simp only [hn_push, hn_up] at nn4
  have LL4 : g3.le g4 := H2.le.trans (by repeat (first | exact H2.le.refl _ | apply le_push | refine le_up ?_ (by assumption))) l4
  have ln4 := LL4.n
  replace o3_1 := o3_1.keep LL4 (bl3_1.wide (Nat.le_refl _) (by omega))
  replace o3_5 := o3_5.keep LL4 (bl3_5.wide (Nat.le_refl _) (by omega))
  replace o3_7 := o3_7.keep LL4 (bl3_7.wide (Nat.le_refl _) (by omega))
  replace row0 := (LL4.2 (hn h .mk) (by omega)).trans row0
  have ce4 := OT.cell o4
  repeat (first | rw [kz_o] | rw [kz_r0] | simp -dsimp -implicitDefEqProofs only [go_sem, ↓reduceIte, Nat.reduceEqDiff, Nat.reduceBEq, and_self, decide_true, decide_false, Bool.not_true, Bool.not_false, ne_eq, not_false_eq_true, Nat.reduceAdd, Nat.reduceLeDiff, Nat.reduceMul, Nat.zero_add, Nat.add_zero, Nat.mul_one, Int.reduceLE, Int.reduceLT, Int.reduceBEq, ce4, row0, hoo])
  refine wz_intro (toRequest_ok (by omega)) ?_
  rintro _ g5 ⟨l5, ys5, b5, rfl, o5, bl5⟩
  try simp only [hn_push, hn_up] at bl5
  have nn5 := l5.n
  try simp only [hn_push, hn_up] at nn5
  have LL5 : g4.le g5 := H2.le.trans (by repeat (first | exact H2.le.refl _ | apply le_push | refine le_up ?_ (by assumption))) l5
  have ln5 := LL5.n
  replace o4 := o4.keep LL5 (bl4.wide (Nat.le_refl _) (by omega))
  replace row0 := (LL5.2 (hn h .mk) (by omega)).trans row0
  obtain ⟨b5_1, s5_1, b5_5, s5_5, b5_7, s5_7, rfl, rfl, o5_1, o5_5, o5_7⟩ := invRequest o5
  clear o5
  have bl5_1 := bl5.split.1
  have ce5_1 := OT.cell o5_1
  have bl5_5 := bl5.split.2.1.split.1
  have ce5_5 := OT.cell o5_5
  have bl5_7 := bl5.split.2.1.split.2.1
  have ce5_7 := OT.cell o5_7
  repeat (first | rw [kz_o] | rw [kz_r0] | simp -dsimp -implicitDefEqProofs only [go_sem, ↓reduceIte, Nat.reduceEqDiff, Nat.reduceBEq, and_self, decide_true, decide_false, Bool.not_true, Bool.not_false, ne_eq, not_false_eq_true, Nat.reduceAdd, Nat.reduceLeDiff, Nat.reduceMul, Nat.zero_add, Nat.add_zero, Nat.mul_one, Int.reduceLE, Int.reduceLT, Int.reduceBEq, ce4, ce5_1, ce5_5, ce5_7, row0, hoo])
  refine wz_intro (implGotOf_tree (outRequest (c := c) (o5_1.keep (by repeat (first | exact H2.le.refl _ | apply le_push | refine le_up ?_ (by assumption))) (bl5_1.wide (Nat.le_refl _) (by omega))) (o5_5.keep (by repeat (first | exact H2.le.refl _ | apply le_push | refine le_up ?_ (by assumption))) (bl5_5.wide (Nat.le_refl _) (by omega))) (o5_7.keep (by repeat (first | exact H2.le.refl _ | apply le_push | refine le_up ?_ (by assumption))) (bl5_7.wide (Nat.le_refl _) (by omega)))) (by omega)) ?_
  rintro s6 g6 ⟨l6, b6, o6, bl6⟩
  try simp only [hn_push, hn_up] at bl6
  have nn6 := l6.n
  try simp only [hn_push, hn_up] at nn6
  have LL6 : g5.le g6 := H2.le.trans (by repeat (first | exact H2.le.refl _ | apply le_push | refine le_up ?_ (by assumption))) l6
  have ln6 := LL6.n
  replace o4 := o4.keep LL6 (bl4.wide (Nat.le_refl _) (by omega))
  replace o5_1 := o5_1.keep LL6 (bl5_1.wide (Nat.le_refl _) (by omega))
  replace o5_5 := o5_5.keep LL6 (bl5_5.wide (Nat.le_refl _) (by omega))
  replace o5_7 := o5_7.keep LL6 (bl5_7.wide (Nat.le_refl _) (by omega))
  replace row0 := (LL6.2 (hn h .mk) (by omega)).trans row0
  have row1 : hg g6 (hn g5 .mk) .mk = some ⟨10, [.raw (.int .i64 c.prompt), s5_1, .raw (.int .i64 c.config.top), .raw (.int .i64 c.config.seed), .raw (.int .i64 c.config.new), s5_5, .raw (.int .u64 c.state), s5_7, .raw (.int .i64 c.table.count), .raw (.int .i64 c.status)]⟩ := (l6.2 (hn g5 .mk) (by simp only [hn_push, hn_up]; omega)).trans (by simp -dsimp -implicitDefEqProofs only [go_sem, ↓reduceIte, Nat.reduceEqDiff, Nat.reduceBEq, and_self, decide_true, decide_false, Bool.not_true, Bool.not_false, ne_eq, not_false_eq_true, Nat.reduceAdd, Nat.reduceLeDiff, Nat.reduceMul, Nat.zero_add, Nat.add_zero, Nat.mul_one, Int.reduceLE, Int.reduceLT, Int.reduceBEq, ce4, ce5_1, ce5_5, ce5_7, row0, hoo])
  have ce6 := OT.cell o6
  repeat (first | rw [kz_o] | rw [kz_r0] | simp -dsimp -implicitDefEqProofs only [go_sem, ↓reduceIte, Nat.reduceEqDiff, Nat.reduceBEq, and_self, decide_true, decide_false, Bool.not_true, Bool.not_false, ne_eq, not_false_eq_true, Nat.reduceAdd, Nat.reduceLeDiff, Nat.reduceMul, Nat.zero_add, Nat.add_zero, Nat.mul_one, Int.reduceLE, Int.reduceLT, Int.reduceBEq, ce4, ce5_1, ce5_5, ce5_7, ce6, row0, row1, hoo])
  refine pw_intro (eqIntS_tree (o6.keep (by repeat (first | exact H2.le.refl _ | apply le_push | refine le_up ?_ (by assumption))) (bl6.wide (Nat.le_refl _) (by omega))) (o4.keep (by repeat (first | exact H2.le.refl _ | apply le_push | refine le_up ?_ (by assumption))) (bl4.wide (Nat.le_refl _) (by omega))) (by omega)) ?_
  rintro _ n7 hn7 rfl
  have hm7 := hn7
  try simp only [hn_push, hn_up] at hm7
  repeat (first | rw [kz_o] | rw [kz_r0] | simp -dsimp -implicitDefEqProofs only [go_sem, ↓reduceIte, Nat.reduceEqDiff, Nat.reduceBEq, and_self, decide_true, decide_false, Bool.not_true, Bool.not_false, ne_eq, not_false_eq_true, Nat.reduceAdd, Nat.reduceLeDiff, Nat.reduceMul, Nat.zero_add, Nat.add_zero, Nat.mul_one, Int.reduceLE, Int.reduceLT, Int.reduceBEq, ce4, ce5_1, ce5_5, ce5_7, ce6, row0, row1, hoo])
  refine dq_intro [(0, []), (1, []), (2, [0]), (3, []), (4, [])] (by kernel_rfl) ?_
  repeat (first | rw [kz_o] | rw [kz_r0] | simp -dsimp -implicitDefEqProofs only [go_sem, ↓reduceIte, Nat.reduceEqDiff, Nat.reduceBEq, and_self, decide_true, decide_false, Bool.not_true, Bool.not_false, ne_eq, not_false_eq_true, Nat.reduceAdd, Nat.reduceLeDiff, Nat.reduceMul, Nat.zero_add, Nat.add_zero, Nat.mul_one, Int.reduceLE, Int.reduceLT, Int.reduceBEq, ce4, ce5_1, ce5_5, ce5_7, ce6, row0, row1, hoo])
  refine wz_intro (toRequest_ok (by omega)) ?_
  rintro _ g8 ⟨l8, ys8, b8, rfl, o8, bl8⟩
  try simp only [hn_push, hn_up] at bl8
  have nn8 := l8.n
  try simp only [hn_push, hn_up] at nn8
  have LL8 : g6.le g8 := H2.le.trans (by repeat (first | exact H2.le.refl _ | apply le_push | refine le_up ?_ (by assumption))) l8
  have ln8 := LL8.n
  replace o4 := o4.keep LL8 (bl4.wide (Nat.le_refl _) (by omega))
  replace o5_1 := o5_1.keep LL8 (bl5_1.wide (Nat.le_refl _) (by omega))
  replace o5_5 := o5_5.keep LL8 (bl5_5.wide (Nat.le_refl _) (by omega))
  replace o5_7 := o5_7.keep LL8 (bl5_7.wide (Nat.le_refl _) (by omega))
  replace o6 := o6.keep LL8 (bl6.wide (Nat.le_refl _) (by omega))
  replace row0 := (LL8.2 (hn h .mk) (by omega)).trans row0
  replace row1 := (LL8.2 (hn g5 .mk) (by omega)).trans row1
  obtain ⟨b8_1, s8_1, b8_5, s8_5, b8_7, s8_7, rfl, rfl, o8_1, o8_5, o8_7⟩ := invRequest o8
  clear o8
  have bl8_1 := bl8.split.1
  have ce8_1 := OT.cell o8_1
  have bl8_5 := bl8.split.2.1.split.1
  have ce8_5 := OT.cell o8_5
  have bl8_7 := bl8.split.2.1.split.2.1
  have ce8_7 := OT.cell o8_7
  rw [kz_r]
  refine ⟨by simp -dsimp -implicitDefEqProofs only [go_sem, ↓reduceIte, Nat.reduceEqDiff, Nat.reduceBEq, and_self, decide_true, decide_false, Bool.not_true, Bool.not_false, ne_eq, not_false_eq_true, Nat.reduceAdd, Nat.reduceLeDiff, Nat.reduceMul, Nat.zero_add, Nat.add_zero, Nat.mul_one, Int.reduceLE, Int.reduceLT, Int.reduceBEq, ce4, ce5_1, ce5_5, ce5_7, ce6, ce8_1, ce8_5, ce8_7, row0, row1, hoo], ?_⟩
  repeat (first | rw [kz_o] | rw [kz_r0] | simp -dsimp -implicitDefEqProofs only [go_sem, ↓reduceIte, Nat.reduceEqDiff, Nat.reduceBEq, and_self, decide_true, decide_false, Bool.not_true, Bool.not_false, ne_eq, not_false_eq_true, Nat.reduceAdd, Nat.reduceLeDiff, Nat.reduceMul, Nat.zero_add, Nat.add_zero, Nat.mul_one, Int.reduceLE, Int.reduceLT, Int.reduceBEq, ce4, ce5_1, ce5_5, ce5_7, ce6, ce8_1, ce8_5, ce8_7, row0, row1, hoo])
  refine pw_intro (eqRequest_tree (outRequest (c := c) (o5_1.keep (by repeat (first | exact H2.le.refl _ | apply le_push | refine le_up ?_ (by assumption))) (bl5_1.wide (Nat.le_refl _) (by omega))) (o5_5.keep (by repeat (first | exact H2.le.refl _ | apply le_push | refine le_up ?_ (by assumption))) (bl5_5.wide (Nat.le_refl _) (by omega))) (o5_7.keep (by repeat (first | exact H2.le.refl _ | apply le_push | refine le_up ?_ (by assumption))) (bl5_7.wide (Nat.le_refl _) (by omega)))) (outRequest (c := c) (o8_1.keep (by repeat (first | exact H2.le.refl _ | apply le_push | refine le_up ?_ (by assumption))) (bl8_1.wide (Nat.le_refl _) (by omega))) (o8_5.keep (by repeat (first | exact H2.le.refl _ | apply le_push | refine le_up ?_ (by assumption))) (bl8_5.wide (Nat.le_refl _) (by omega))) (o8_7.keep (by repeat (first | exact H2.le.refl _ | apply le_push | refine le_up ?_ (by assumption))) (bl8_7.wide (Nat.le_refl _) (by omega)))) hf0) ?_
  rintro _ n9 hn9 rfl
  have hm9 := hn9
  try simp only [hn_push, hn_up] at hm9
  repeat (first | rw [kz_o] | rw [kz_r0] | simp -dsimp -implicitDefEqProofs only [go_sem, ↓reduceIte, Nat.reduceEqDiff, Nat.reduceBEq, and_self, decide_true, decide_false, Bool.not_true, Bool.not_false, ne_eq, not_false_eq_true, Nat.reduceAdd, Nat.reduceLeDiff, Nat.reduceMul, Nat.zero_add, Nat.add_zero, Nat.mul_one, Int.reduceLE, Int.reduceLT, Int.reduceBEq, ce4, ce5_1, ce5_5, ce5_7, ce6, row0, row1, hoo])
  refine wz_intro (markRequest_ok (c := c) (o5_1.keep (by repeat (first | exact H2.le.refl _ | apply le_push | refine le_up ?_ (by assumption))) (bl5_1.wide (Nat.le_refl _) (by omega))) (o5_5.keep (by repeat (first | exact H2.le.refl _ | apply le_push | refine le_up ?_ (by assumption))) (bl5_5.wide (Nat.le_refl _) (by omega))) (o5_7.keep (by repeat (first | exact H2.le.refl _ | apply le_push | refine le_up ?_ (by assumption))) (bl5_7.wide (Nat.le_refl _) (by omega))) (bl5.wide (Nat.le_refl _) (by first | omega | (simp only [hn_push, hn_up]; omega))) ⟨by omega, by omega⟩) ?_
  rintro _ g10 ⟨k10, z10_1, z10_5, z10_7, rfl, lo10, hi10, ⟨o5_1', o5_5', o5_7'⟩, nn10, fr10⟩
  try simp only [hn_push, hn_up] at nn10
  replace o4 := OT.frame (g' := g10) (o4.keep (by repeat (first | exact H2.le.refl _ | apply le_push | refine le_up ?_ (by assumption))) (bl4.wide (Nat.le_refl _) (by omega))) fun b hb => fr10 b (by have := (bl4.2 b hb).2; first | omega | (simp only [hn_push, hn_up]; omega)) (fun hx => by have := bl4.2 b (by simp [hb]); have := bl5.2 b hx; omega)
  replace o6 := OT.frame (g' := g10) (o6.keep (by repeat (first | exact H2.le.refl _ | apply le_push | refine le_up ?_ (by assumption))) (bl6.wide (Nat.le_refl _) (by omega))) fun b hb => fr10 b (by have := (bl6.2 b hb).2; first | omega | (simp only [hn_push, hn_up]; omega)) (fun hx => by have := bl6.2 b (by simp [hb]); have := bl5.2 b hx; omega)
  replace o5_1 := o5_1'
  replace o5_5 := o5_5'
  replace o5_7 := o5_7'
  replace row0 := (show hg g10 (hn h .mk) .mk = hg g8 (hn h .mk) .mk from fr10 (hn h .mk) (by first | omega | (simp only [hn_push, hn_up]; omega)) (fun hx => by have := bl5.2 _ hx; omega)).trans row0
  replace row1 := (show hg g10 (hn g5 .mk) .mk = hg g8 (hn g5 .mk) .mk from fr10 (hn g5 .mk) (by first | omega | (simp only [hn_push, hn_up]; omega)) (fun hx => by have := bl5.2 _ hx; omega)).trans row1
  have kp10 : 0 ≤ k10 := by omega
  have kq10 : ¬ k10 < 0 := by omega
  repeat (first | rw [kz_o] | rw [kz_r0] | simp -dsimp -implicitDefEqProofs only [go_sem, ↓reduceIte, Nat.reduceEqDiff, Nat.reduceBEq, and_self, decide_true, decide_false, Bool.not_true, Bool.not_false, ne_eq, not_false_eq_true, Nat.reduceAdd, Nat.reduceLeDiff, Nat.reduceMul, Nat.zero_add, Nat.add_zero, Nat.mul_one, Int.reduceLE, Int.reduceLT, Int.reduceBEq, kq10, ce4, ce5_1, ce5_5, ce5_7, ce6, row0, row1, hoo])
  refine pw_intro (eqIntS_tree (o6.keep (by repeat (first | exact H2.le.refl _ | apply le_push | refine le_up ?_ (by assumption))) (bl6.wide (Nat.le_refl _) (by omega))) (o4.keep (by repeat (first | exact H2.le.refl _ | apply le_push | refine le_up ?_ (by assumption))) (bl4.wide (Nat.le_refl _) (by omega))) (by omega)) ?_
  rintro _ n11 hn11 rfl
  have hm11 := hn11
  try simp only [hn_push, hn_up] at hm11
  repeat (first | rw [kz_o] | rw [kz_r0] | simp -dsimp -implicitDefEqProofs only [go_sem, ↓reduceIte, Nat.reduceEqDiff, Nat.reduceBEq, and_self, decide_true, decide_false, Bool.not_true, Bool.not_false, ne_eq, not_false_eq_true, Nat.reduceAdd, Nat.reduceLeDiff, Nat.reduceMul, Nat.zero_add, Nat.add_zero, Nat.mul_one, Int.reduceLE, Int.reduceLT, Int.reduceBEq, kq10, ce4, ce5_1, ce5_5, ce5_7, ce6, row0, row1, hoo])
  refine wz_intro (markIntS_tree (o6.keep (by repeat (first | exact H2.le.refl _ | apply le_push | refine le_up ?_ (by assumption))) (bl6.wide (Nat.le_refl _) (by omega))) (bl6.wide (Nat.le_refl _) (by simp only [hn_push, hn_up]; omega)) ⟨by omega, by omega⟩) ?_
  rintro _ g12 ⟨k12, z12, rfl, lo12, hi12, o6', hd12, nn12, fr12⟩
  try simp only [hn_push, hn_up] at nn12
  replace o4 := OT.frame (g' := g12) (o4.keep (by repeat (first | exact H2.le.refl _ | apply le_push | refine le_up ?_ (by assumption))) (bl4.wide (Nat.le_refl _) (by omega))) fun b hb => fr12 b (by have := (bl4.2 b hb).2; first | omega | (simp only [hn_push, hn_up]; omega)) (fun hx => by have := bl4.2 b (by simp [hb]); have := bl6.2 b hx; omega)
  replace o5_1 := OT.frame (g' := g12) (o5_1.keep (by repeat (first | exact H2.le.refl _ | apply le_push | refine le_up ?_ (by assumption))) (bl5_1.wide (Nat.le_refl _) (by omega))) fun b hb => fr12 b (by have := (bl5_1.2 b hb).2; first | omega | (simp only [hn_push, hn_up]; omega)) (fun hx => by have := bl5.2 b (by simp [hb]); have := bl6.2 b hx; omega)
  replace o5_5 := OT.frame (g' := g12) (o5_5.keep (by repeat (first | exact H2.le.refl _ | apply le_push | refine le_up ?_ (by assumption))) (bl5_5.wide (Nat.le_refl _) (by omega))) fun b hb => fr12 b (by have := (bl5_5.2 b hb).2; first | omega | (simp only [hn_push, hn_up]; omega)) (fun hx => by have := bl5.2 b (by simp [hb]); have := bl6.2 b hx; omega)
  replace o5_7 := OT.frame (g' := g12) (o5_7.keep (by repeat (first | exact H2.le.refl _ | apply le_push | refine le_up ?_ (by assumption))) (bl5_7.wide (Nat.le_refl _) (by omega))) fun b hb => fr12 b (by have := (bl5_7.2 b hb).2; first | omega | (simp only [hn_push, hn_up]; omega)) (fun hx => by have := bl5.2 b (by simp [hb]); have := bl6.2 b hx; omega)
  replace o6 := o6'
  replace row0 := (show hg g12 (hn h .mk) .mk = hg g10 (hn h .mk) .mk from fr12 (hn h .mk) (by first | omega | (simp only [hn_push, hn_up]; omega)) (fun hx => by have := bl6.2 _ hx; omega)).trans row0
  replace row1 := (show hg g12 (hn g5 .mk) .mk = hg g10 (hn g5 .mk) .mk from fr12 (hn g5 .mk) (by first | omega | (simp only [hn_push, hn_up]; omega)) (fun hx => by have := bl6.2 _ hx; omega)).trans row1
  have kp12 : 0 ≤ k12 := by omega
  have kq12 : ¬ k12 < 0 := by omega
  repeat (first | rw [kz_o] | rw [kz_r0] | simp -dsimp -implicitDefEqProofs only [go_sem, ↓reduceIte, Nat.reduceEqDiff, Nat.reduceBEq, and_self, decide_true, decide_false, Bool.not_true, Bool.not_false, ne_eq, not_false_eq_true, Nat.reduceAdd, Nat.reduceLeDiff, Nat.reduceMul, Nat.zero_add, Nat.add_zero, Nat.mul_one, Int.reduceLE, Int.reduceLT, Int.reduceBEq, kq10, kq12, ce4, ce5_1, ce5_5, ce5_7, ce6, row0, row1, hoo])
  refine pw_intro (heldIntS_tree (o6.keep (by repeat (first | exact H2.le.refl _ | apply le_push | refine le_up ?_ (by assumption))) (bl6.wide (Nat.le_refl _) (by omega))) hd12) ?_
  rintro _ n13 hn13 rfl
  have hm13 := hn13
  try simp only [hn_push, hn_up] at hm13
  repeat (first | rw [kz_o] | rw [kz_r0] | simp -dsimp -implicitDefEqProofs only [go_sem, ↓reduceIte, Nat.reduceEqDiff, Nat.reduceBEq, and_self, decide_true, decide_false, Bool.not_true, Bool.not_false, ne_eq, not_false_eq_true, Nat.reduceAdd, Nat.reduceLeDiff, Nat.reduceMul, Nat.zero_add, Nat.add_zero, Nat.mul_one, Int.reduceLE, Int.reduceLT, Int.reduceBEq, kq10, kq12, ce4, ce5_1, ce5_5, ce5_7, ce6, row0, row1, hoo])
  refine wz_intro (toRequest_ok (by omega)) ?_
  rintro _ g14 ⟨l14, ys14, b14, rfl, o14, bl14⟩
  try simp only [hn_push, hn_up] at bl14
  have nn14 := l14.n
  try simp only [hn_push, hn_up] at nn14
  have LL14 : g12.le g14 := H2.le.trans (by repeat (first | exact H2.le.refl _ | apply le_push | refine le_up ?_ (by assumption))) l14
  have ln14 := LL14.n
  replace o4 := o4.keep LL14 (bl4.wide (Nat.le_refl _) (by omega))
  replace o5_1 := o5_1.keep LL14 (bl5_1.wide (Nat.le_refl _) (by omega))
  replace o5_5 := o5_5.keep LL14 (bl5_5.wide (Nat.le_refl _) (by omega))
  replace o5_7 := o5_7.keep LL14 (bl5_7.wide (Nat.le_refl _) (by omega))
  replace o6 := o6.keep LL14 (bl6.wide (Nat.le_refl _) (by omega))
  replace row0 := (LL14.2 (hn h .mk) (by omega)).trans row0
  replace row1 := (LL14.2 (hn g5 .mk) (by omega)).trans row1
  obtain ⟨b14_1, s14_1, b14_5, s14_5, b14_7, s14_7, rfl, rfl, o14_1, o14_5, o14_7⟩ := invRequest o14
  clear o14
  have bl14_1 := bl14.split.1
  have ce14_1 := OT.cell o14_1
  have bl14_5 := bl14.split.2.1.split.1
  have ce14_5 := OT.cell o14_5
  have bl14_7 := bl14.split.2.1.split.2.1
  have ce14_7 := OT.cell o14_7
  repeat (first | rw [kz_o] | rw [kz_r0] | simp -dsimp -implicitDefEqProofs only [go_sem, ↓reduceIte, Nat.reduceEqDiff, Nat.reduceBEq, and_self, decide_true, decide_false, Bool.not_true, Bool.not_false, ne_eq, not_false_eq_true, Nat.reduceAdd, Nat.reduceLeDiff, Nat.reduceMul, Nat.zero_add, Nat.add_zero, Nat.mul_one, Int.reduceLE, Int.reduceLT, Int.reduceBEq, kq10, kq12, ce4, ce5_1, ce5_5, ce5_7, ce6, ce14_1, ce14_5, ce14_7, row0, row1, hoo])
  refine wz_intro (implGotOf_tree (outRequest (c := c) (o14_1.keep (by repeat (first | exact H2.le.refl _ | apply le_push | refine le_up ?_ (by assumption))) (bl14_1.wide (Nat.le_refl _) (by omega))) (o14_5.keep (by repeat (first | exact H2.le.refl _ | apply le_push | refine le_up ?_ (by assumption))) (bl14_5.wide (Nat.le_refl _) (by omega))) (o14_7.keep (by repeat (first | exact H2.le.refl _ | apply le_push | refine le_up ?_ (by assumption))) (bl14_7.wide (Nat.le_refl _) (by omega)))) (by omega)) ?_
  rintro s15 g15 ⟨l15, b15, o15, bl15⟩
  try simp only [hn_push, hn_up] at bl15
  have nn15 := l15.n
  try simp only [hn_push, hn_up] at nn15
  have LL15 : g14.le g15 := H2.le.trans (by repeat (first | exact H2.le.refl _ | apply le_push | refine le_up ?_ (by assumption))) l15
  have ln15 := LL15.n
  replace o4 := o4.keep LL15 (bl4.wide (Nat.le_refl _) (by omega))
  replace o5_1 := o5_1.keep LL15 (bl5_1.wide (Nat.le_refl _) (by omega))
  replace o5_5 := o5_5.keep LL15 (bl5_5.wide (Nat.le_refl _) (by omega))
  replace o5_7 := o5_7.keep LL15 (bl5_7.wide (Nat.le_refl _) (by omega))
  replace o6 := o6.keep LL15 (bl6.wide (Nat.le_refl _) (by omega))
  replace o14_1 := o14_1.keep LL15 (bl14_1.wide (Nat.le_refl _) (by omega))
  replace o14_5 := o14_5.keep LL15 (bl14_5.wide (Nat.le_refl _) (by omega))
  replace o14_7 := o14_7.keep LL15 (bl14_7.wide (Nat.le_refl _) (by omega))
  replace row0 := (LL15.2 (hn h .mk) (by omega)).trans row0
  replace row1 := (LL15.2 (hn g5 .mk) (by omega)).trans row1
  have ce15 := OT.cell o15
  repeat (first | rw [kz_o] | rw [kz_r0] | simp -dsimp -implicitDefEqProofs only [go_sem, ↓reduceIte, Nat.reduceEqDiff, Nat.reduceBEq, and_self, decide_true, decide_false, Bool.not_true, Bool.not_false, ne_eq, not_false_eq_true, Nat.reduceAdd, Nat.reduceLeDiff, Nat.reduceMul, Nat.zero_add, Nat.add_zero, Nat.mul_one, Int.reduceLE, Int.reduceLT, Int.reduceBEq, kq10, kq12, ce4, ce5_1, ce5_5, ce5_7, ce6, ce15, row0, row1, hoo])
  refine pw_intro (eqIntS_tree (o15.keep (by repeat (first | exact H2.le.refl _ | apply le_push | refine le_up ?_ (by assumption))) (bl15.wide (Nat.le_refl _) (by omega))) (o4.keep (by repeat (first | exact H2.le.refl _ | apply le_push | refine le_up ?_ (by assumption))) (bl4.wide (Nat.le_refl _) (by omega))) (by omega)) ?_
  rintro _ n16 hn16 rfl
  have hm16 := hn16
  try simp only [hn_push, hn_up] at hm16
  repeat (first | rw [kz_o] | rw [kz_r0] | simp -dsimp -implicitDefEqProofs only [go_sem, ↓reduceIte, Nat.reduceEqDiff, Nat.reduceBEq, and_self, decide_true, decide_false, Bool.not_true, Bool.not_false, ne_eq, not_false_eq_true, Nat.reduceAdd, Nat.reduceLeDiff, Nat.reduceMul, Nat.zero_add, Nat.add_zero, Nat.mul_one, Int.reduceLE, Int.reduceLT, Int.reduceBEq, kq10, kq12, ce4, ce5_1, ce5_5, ce5_7, ce6, ce15, row0, row1, hoo])
  refine pw_intro (heldIntS_tree (o6.keep (by repeat (first | exact H2.le.refl _ | apply le_push | refine le_up ?_ (by assumption))) (bl6.wide (Nat.le_refl _) (by omega))) hd12) ?_
  rintro _ n17 hn17 rfl
  have hm17 := hn17
  try simp only [hn_push, hn_up] at hm17
  repeat (first | rw [kz_o] | rw [kz_r0] | simp -dsimp -implicitDefEqProofs only [go_sem, ↓reduceIte, Nat.reduceEqDiff, Nat.reduceBEq, and_self, decide_true, decide_false, Bool.not_true, Bool.not_false, ne_eq, not_false_eq_true, Nat.reduceAdd, Nat.reduceLeDiff, Nat.reduceMul, Nat.zero_add, Nat.add_zero, Nat.mul_one, Int.reduceLE, Int.reduceLT, Int.reduceBEq, kq10, kq12, ce4, ce5_1, ce5_5, ce5_7, ce6, ce15, row0, row1, hoo])
  rfl
end Go.Bi
