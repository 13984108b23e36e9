/- The walk of the law on FnExactStopped. -/
import Derived.Test.YtjofbadmkigkjaaKf
set_option linter.unusedSimpArgs false
set_option linter.unusedVariables false
set_option maxRecDepth 20000
namespace Go.Bi
open Go.Proofs
open Go.Ai (wrap_i64 wrap_u64 wrap_u8)
variable {W0 : World}
theorem FnExactStopped_ok (hW : Lng W0) {F0 : Nat → Adr} {m : LModel} {F1 : Nat → Adr} {c : LConfig} {f2 : Adr} {ts : List Int} {h : H2} (hf0 : fitModel m) (hf1 : fitConfig c) (hf2 : ts.length ≤ 9223372036854775807)  : WC2 Try.prog W0 4 [.st (xModel F0 m), .st (xConfig F1 c), .sl f2 1 (ints ts)] h (fun v h' => v = .raw (.bool true)) := by
  refine start (P := Try.prog) [[0, 1, 2], [2, 3, 4], [], [2, 3, 4], [2, 3, 4, 7], [2, 3, 4, 7], [], [2, 3, 4, 7], [2, 3, 4, 7], [], [2, 3, 4], [2, 3, 4, 8, 9], [2, 3, 4, 8, 9, 10], [2, 3, 4, 8, 9, 10, 11], [2, 3, 4, 8, 9, 10, 11, 12], [2, 3, 4, 8, 9, 10, 11, 12, 13, 14], [], [2, 3, 4, 10, 11, 12], [], [2, 4, 11, 12], [], [2, 12], [], []] (by kernel_rfl) Try.func4 rfl (by decide) (by decide +kernel) (rs := [.tmp 6]) rfl rfl (Nat.le_of_ble_eq_true rfl) ?_
  intro wf
  repeat (first | rw [kz_o] | rw [kz_r0] | simp -dsimp -implicitDefEqProofs only [go_sem, Nat.reduceBEq, Nat.reduceAdd, Nat.reduceLeDiff, Nat.reduceMul, Int.reduceLE, Int.reduceLT, Int.reduceBEq])
  refine gz_dec (fun q1 => ?_) (fun q1 => ?_)
  · repeat (first | rw [kz_o] | rw [kz_r0] | simp -dsimp -implicitDefEqProofs only [go_sem, Nat.reduceBEq, Nat.reduceAdd, Nat.reduceLeDiff, Nat.reduceMul, Int.reduceLE, Int.reduceLT, Int.reduceBEq])
    rfl
  repeat (first | rw [kz_o] | rw [kz_r0] | simp -dsimp -implicitDefEqProofs only [go_sem, Nat.reduceBEq, Nat.reduceAdd, Nat.reduceLeDiff, Nat.reduceMul, Int.reduceLE, Int.reduceLT, Int.reduceBEq, hoo])
  refine pw_intro (szModel_ok hf0 ⟨by omega, by omega⟩) ?_
  rintro _ n2 hn2 ⟨k2, rfl, hk2⟩
  have hm2 := hn2
  try simp only [hn_push, hn_up] at hm2
  repeat (first | rw [kz_o] | rw [kz_r0] | simp -dsimp -implicitDefEqProofs only [go_sem, Nat.reduceBEq, Nat.reduceAdd, Nat.reduceLeDiff, Nat.reduceMul, Int.reduceLE, Int.reduceLT, Int.reduceBEq, hoo])
  refine gz_dec (fun q3 => ?_) (fun q3 => ?_)
  · repeat (first | rw [kz_o] | rw [kz_r0] | simp -dsimp -implicitDefEqProofs only [go_sem, Nat.reduceBEq, Nat.reduceAdd, Nat.reduceLeDiff, Nat.reduceMul, Int.reduceLE, Int.reduceLT, Int.reduceBEq])
    rfl
  repeat (first | rw [kz_o] | rw [kz_r0] | simp -dsimp -implicitDefEqProofs only [go_sem, Nat.reduceBEq, Nat.reduceAdd, Nat.reduceLeDiff, Nat.reduceMul, Int.reduceLE, Int.reduceLT, Int.reduceBEq, hoo])
  refine pw_intro (szConfig_ok hf1 ⟨by omega, by omega⟩) ?_
  rintro _ n4 hn4 ⟨k4, rfl, hk4⟩
  have hm4 := hn4
  try simp only [hn_push, hn_up] at hm4
  repeat (first | rw [kz_o] | rw [kz_r0] | simp -dsimp -implicitDefEqProofs only [go_sem, Nat.reduceBEq, Nat.reduceAdd, Nat.reduceLeDiff, Nat.reduceMul, Int.reduceLE, Int.reduceLT, Int.reduceBEq, hoo])
  refine gz_dec (fun q5 => ?_) (fun q5 => ?_)
  · repeat (first | rw [kz_o] | rw [kz_r0] | simp -dsimp -implicitDefEqProofs only [go_sem, Nat.reduceBEq, Nat.reduceAdd, Nat.reduceLeDiff, Nat.reduceMul, Int.reduceLE, Int.reduceLT, Int.reduceBEq])
    rfl
  have hsz_m : szModel m ≤ 1048576 := by omega
  have hsz_c : szConfig c ≤ 1048576 := by omega
  have hm1 : m.merges.length ≤ 1048576 := by simp only [szModel, szMergeS] at hsz_m; omega
  have ht1 : ts.length ≤ 1048576 := by omega
  have hc1 : c.stops.length ≤ 1048576 := by simp only [szConfig] at hsz_c; omega
  have hz1 : ∀ s ∈ c.stops, s.size ≤ 1048576 := fun s hs => by have := mem_sumL s hs; simp only [szConfig] at hsz_c; omega
  repeat (first | rw [kz_o] | rw [kz_r0] | simp -dsimp -implicitDefEqProofs only [go_sem, Nat.reduceBEq, Nat.reduceAdd, Nat.reduceLeDiff, Nat.reduceMul, Int.reduceLE, Int.reduceLT, Int.reduceBEq, hoo])
  refine dq_intro [(0, []), (2, []), (4, []), (1, [2]), (3, []), (5, []), (6, []), (7, []), (8, []), (9, []), (10, []), (11, [])] (by kernel_rfl) ?_
  repeat (first | rw [kz_o] | rw [kz_r0] | simp -dsimp -implicitDefEqProofs only [go_sem, Nat.reduceBEq, Nat.reduceAdd, Nat.reduceLeDiff, Nat.reduceMul, Int.reduceLE, Int.reduceLT, Int.reduceBEq, hoo])
  refine wz_intro (toModel_ok (by omega)) ?_
  rintro _ g6 ⟨l6, ys6, b6, rfl, o6, bl6⟩
  try simp only [hn_push, hn_up] at bl6
  have nn6 := l6.n
  try simp only [hn_push, hn_up] at nn6
  have LL6 : h.le g6 := H2.le.trans (by repeat (first | exact H2.le.refl _ | apply le_push | refine le_up ?_ (by assumption))) l6
  have ln6 := LL6.n
  have row0 : hg g6 (hn h .mk) .mk = some ⟨14, xModel F0 m⟩ := (l6.2 (hn h .mk) (by simp only [hn_push, hn_up]; omega)).trans (by simp -dsimp -implicitDefEqProofs only [go_sem, Nat.reduceBEq, Nat.reduceAdd, Nat.reduceLeDiff, Nat.reduceMul, Int.reduceLE, Int.reduceLT, Int.reduceBEq, hoo])
  have row1 : hg g6 (hn h .mk + 1) .mk = some ⟨4, xConfig F1 c⟩ := (l6.2 (hn h .mk + 1) (by simp only [hn_push, hn_up]; omega)).trans (by simp -dsimp -implicitDefEqProofs only [go_sem, Nat.reduceBEq, Nat.reduceAdd, Nat.reduceLeDiff, Nat.reduceMul, Int.reduceLE, Int.reduceLT, Int.reduceBEq, row0, hoo])
  obtain ⟨b6_3, s6_3, b6_4, s6_4, b6_5, s6_5, b6_6, s6_6, b6_8, s6_8, b6_9, s6_9, b6_12, s6_12, b6_13, s6_13, rfl, rfl, o6_3, o6_4, o6_5, o6_6, o6_8, o6_9, o6_12, o6_13⟩ := invModel o6
  clear o6
  have bl6_3 := bl6.split.1
  have ce6_3 := OT.cell o6_3
  have bl6_4 := bl6.split.2.1.split.1
  have ce6_4 := OT.cell o6_4
  have bl6_5 := bl6.split.2.1.split.2.1.split.1
  have ce6_5 := OT.cell o6_5
  have bl6_6 := bl6.split.2.1.split.2.1.split.2.1.split.1
  have ce6_6 := OT.cell o6_6
  have bl6_8 := bl6.split.2.1.split.2.1.split.2.1.split.2.1.split.1
  have ce6_8 := OT.cell o6_8
  have bl6_9 := bl6.split.2.1.split.2.1.split.2.1.split.2.1.split.2.1.split.1
  have ce6_9 := OT.cell o6_9
  have bl6_12 := bl6.split.2.1.split.2.1.split.2.1.split.2.1.split.2.1.split.2.1.split.1
  have ce6_12 := OT.cell o6_12
  have bl6_13 := bl6.split.2.1.split.2.1.split.2.1.split.2.1.split.2.1.split.2.1.split.2.1
  have ce6_13 := OT.cell o6_13
  rw [kz_r]
  refine ⟨by simp -dsimp -implicitDefEqProofs only [go_sem, Nat.reduceBEq, Nat.reduceAdd, Nat.reduceLeDiff, Nat.reduceMul, Int.reduceLE, Int.reduceLT, Int.reduceBEq, ce6_3, ce6_4, ce6_5, ce6_6, ce6_8, ce6_9, ce6_12, ce6_13, row0, row1, hoo], ?_⟩
  repeat (first | rw [kz_o] | rw [kz_r0] | simp -dsimp -implicitDefEqProofs only [go_sem, Nat.reduceBEq, Nat.reduceAdd, Nat.reduceLeDiff, Nat.reduceMul, Int.reduceLE, Int.reduceLT, Int.reduceBEq, ce6_3, ce6_4, ce6_5, ce6_6, ce6_8, ce6_9, ce6_12, ce6_13, row0, row1, hoo])
  refine wz_intro (toConfig_ok (by omega)) ?_
  rintro _ g7 ⟨l7, ys7, b7, rfl, o7, bl7⟩
  try simp only [hn_push, hn_up] at bl7
  have nn7 := l7.n
  try simp only [hn_push, hn_up] at nn7
  have LL7 : g6.le g7 := H2.le.trans (by repeat (first | exact H2.le.refl _ | apply le_push | refine le_up ?_ (by assumption))) l7
  have ln7 := LL7.n
  replace o6_3 := o6_3.keep LL7 (bl6_3.wide (Nat.le_refl _) (by omega))
  replace o6_4 := o6_4.keep LL7 (bl6_4.wide (Nat.le_refl _) (by omega))
  replace o6_5 := o6_5.keep LL7 (bl6_5.wide (Nat.le_refl _) (by omega))
  replace o6_6 := o6_6.keep LL7 (bl6_6.wide (Nat.le_refl _) (by omega))
  replace o6_8 := o6_8.keep LL7 (bl6_8.wide (Nat.le_refl _) (by omega))
  replace o6_9 := o6_9.keep LL7 (bl6_9.wide (Nat.le_refl _) (by omega))
  replace o6_12 := o6_12.keep LL7 (bl6_12.wide (Nat.le_refl _) (by omega))
  replace o6_13 := o6_13.keep LL7 (bl6_13.wide (Nat.le_refl _) (by omega))
  replace row0 := (LL7.2 (hn h .mk) (by omega)).trans row0
  replace row1 := (LL7.2 (hn h .mk + 1) (by omega)).trans row1
  obtain ⟨b7_3, s7_3, rfl, rfl, o7_3⟩ := invConfig o7
  clear o7
  have bl7_3 := bl7
  have ce7_3 := OT.cell o7_3
  repeat (first | rw [kz_o] | rw [kz_r0] | simp -dsimp -implicitDefEqProofs only [go_sem, Nat.reduceBEq, Nat.reduceAdd, Nat.reduceLeDiff, Nat.reduceMul, Int.reduceLE, Int.reduceLT, Int.reduceBEq, ce6_3, ce6_4, ce6_5, ce6_6, ce6_8, ce6_9, ce6_12, ce6_13, ce7_3, row0, row1, hoo])
  refine wz_intro (toIntS_new (by omega)) ?_
  rintro s8 g8 ⟨l8, b8, o8, bl8⟩
  try simp only [hn_push, hn_up] at bl8
  have nn8 := l8.n
  try simp only [hn_push, hn_up] at nn8
  have LL8 : g7.le g8 := H2.le.trans (by repeat (first | exact H2.le.refl _ | apply le_push | refine le_up ?_ (by assumption))) l8
  have ln8 := LL8.n
  replace o6_3 := o6_3.keep LL8 (bl6_3.wide (Nat.le_refl _) (by omega))
  replace o6_4 := o6_4.keep LL8 (bl6_4.wide (Nat.le_refl _) (by omega))
  replace o6_5 := o6_5.keep LL8 (bl6_5.wide (Nat.le_refl _) (by omega))
  replace o6_6 := o6_6.keep LL8 (bl6_6.wide (Nat.le_refl _) (by omega))
  replace o6_8 := o6_8.keep LL8 (bl6_8.wide (Nat.le_refl _) (by omega))
  replace o6_9 := o6_9.keep LL8 (bl6_9.wide (Nat.le_refl _) (by omega))
  replace o6_12 := o6_12.keep LL8 (bl6_12.wide (Nat.le_refl _) (by omega))
  replace o6_13 := o6_13.keep LL8 (bl6_13.wide (Nat.le_refl _) (by omega))
  replace o7_3 := o7_3.keep LL8 (bl7_3.wide (Nat.le_refl _) (by omega))
  replace row0 := (LL8.2 (hn h .mk) (by omega)).trans row0
  replace row1 := (LL8.2 (hn h .mk + 1) (by omega)).trans row1
  have ce8 := OT.cell o8
  repeat (first | rw [kz_o] | rw [kz_r0] | simp -dsimp -implicitDefEqProofs only [go_sem, Nat.reduceBEq, Nat.reduceAdd, Nat.reduceLeDiff, Nat.reduceMul, Int.reduceLE, Int.reduceLT, Int.reduceBEq, ce6_3, ce6_4, ce6_5, ce6_6, ce6_8, ce6_9, ce6_12, ce6_13, ce7_3, ce8, row0, row1, hoo])
  refine wz_intro (specStopped_tree (outModel (c := m) (o6_3.keep (by repeat (first | exact H2.le.refl _ | apply le_push | refine le_up ?_ (by assumption))) (bl6_3.wide (Nat.le_refl _) (by omega))) (o6_4.keep (by repeat (first | exact H2.le.refl _ | apply le_push | refine le_up ?_ (by assumption))) (bl6_4.wide (Nat.le_refl _) (by omega))) (o6_5.keep (by repeat (first | exact H2.le.refl _ | apply le_push | refine le_up ?_ (by assumption))) (bl6_5.wide (Nat.le_refl _) (by omega))) (o6_6.keep (by repeat (first | exact H2.le.refl _ | apply le_push | refine le_up ?_ (by assumption))) (bl6_6.wide (Nat.le_refl _) (by omega))) (o6_8.keep (by repeat (first | exact H2.le.refl _ | apply le_push | refine le_up ?_ (by assumption))) (bl6_8.wide (Nat.le_refl _) (by omega))) (o6_9.keep (by repeat (first | exact H2.le.refl _ | apply le_push | refine le_up ?_ (by assumption))) (bl6_9.wide (Nat.le_refl _) (by omega))) (o6_12.keep (by repeat (first | exact H2.le.refl _ | apply le_push | refine le_up ?_ (by assumption))) (bl6_12.wide (Nat.le_refl _) (by omega))) (o6_13.keep (by repeat (first | exact H2.le.refl _ | apply le_push | refine le_up ?_ (by assumption))) (bl6_13.wide (Nat.le_refl _) (by omega)))) (outConfig (c := c) (o7_3.keep (by repeat (first | exact H2.le.refl _ | apply le_push | refine le_up ?_ (by assumption))) (bl7_3.wide (Nat.le_refl _) (by omega)))) (o8.keep (by repeat (first | exact H2.le.refl _ | apply le_push | refine le_up ?_ (by assumption))) (bl8.wide (Nat.le_refl _) (by omega))) hW hm1 ht1 hc1 hz1) ?_
  rintro _ g9 ⟨l9, rfl⟩
  have nn9 := l9.n
  try simp only [hn_push, hn_up] at nn9
  have LL9 : g8.le g9 := H2.le.trans (by repeat (first | exact H2.le.refl _ | apply le_push | refine le_up ?_ (by assumption))) l9
  have ln9 := LL9.n
  replace o6_3 := o6_3.keep LL9 (bl6_3.wide (Nat.le_refl _) (by omega))
  replace o6_4 := o6_4.keep LL9 (bl6_4.wide (Nat.le_refl _) (by omega))
  replace o6_5 := o6_5.keep LL9 (bl6_5.wide (Nat.le_refl _) (by omega))
  replace o6_6 := o6_6.keep LL9 (bl6_6.wide (Nat.le_refl _) (by omega))
  replace o6_8 := o6_8.keep LL9 (bl6_8.wide (Nat.le_refl _) (by omega))
  replace o6_9 := o6_9.keep LL9 (bl6_9.wide (Nat.le_refl _) (by omega))
  replace o6_12 := o6_12.keep LL9 (bl6_12.wide (Nat.le_refl _) (by omega))
  replace o6_13 := o6_13.keep LL9 (bl6_13.wide (Nat.le_refl _) (by omega))
  replace o7_3 := o7_3.keep LL9 (bl7_3.wide (Nat.le_refl _) (by omega))
  replace o8 := o8.keep LL9 (bl8.wide (Nat.le_refl _) (by omega))
  replace row0 := (LL9.2 (hn h .mk) (by omega)).trans row0
  replace row1 := (LL9.2 (hn h .mk + 1) (by omega)).trans row1
  repeat (first | rw [kz_o] | rw [kz_r0] | simp -dsimp -implicitDefEqProofs only [go_sem, Nat.reduceBEq, Nat.reduceAdd, Nat.reduceLeDiff, Nat.reduceMul, Int.reduceLE, Int.reduceLT, Int.reduceBEq, row0, row1, hoo])
  refine wz_intro (toModel_ok (by omega)) ?_
  rintro _ g10 ⟨l10, ys10, b10, rfl, o10, bl10⟩
  try simp only [hn_push, hn_up] at bl10
  have nn10 := l10.n
  try simp only [hn_push, hn_up] at nn10
  have LL10 : g9.le g10 := H2.le.trans (by repeat (first | exact H2.le.refl _ | apply le_push | refine le_up ?_ (by assumption))) l10
  have ln10 := LL10.n
  replace row0 := (LL10.2 (hn h .mk) (by omega)).trans row0
  replace row1 := (LL10.2 (hn h .mk + 1) (by omega)).trans row1
  obtain ⟨b10_3, s10_3, b10_4, s10_4, b10_5, s10_5, b10_6, s10_6, b10_8, s10_8, b10_9, s10_9, b10_12, s10_12, b10_13, s10_13, rfl, rfl, o10_3, o10_4, o10_5, o10_6, o10_8, o10_9, o10_12, o10_13⟩ := invModel o10
  clear o10
  have bl10_3 := bl10.split.1
  have ce10_3 := OT.cell o10_3
  have bl10_4 := bl10.split.2.1.split.1
  have ce10_4 := OT.cell o10_4
  have bl10_5 := bl10.split.2.1.split.2.1.split.1
  have ce10_5 := OT.cell o10_5
  have bl10_6 := bl10.split.2.1.split.2.1.split.2.1.split.1
  have ce10_6 := OT.cell o10_6
  have bl10_8 := bl10.split.2.1.split.2.1.split.2.1.split.2.1.split.1
  have ce10_8 := OT.cell o10_8
  have bl10_9 := bl10.split.2.1.split.2.1.split.2.1.split.2.1.split.2.1.split.1
  have ce10_9 := OT.cell o10_9
  have bl10_12 := bl10.split.2.1.split.2.1.split.2.1.split.2.1.split.2.1.split.2.1.split.1
  have ce10_12 := OT.cell o10_12
  have bl10_13 := bl10.split.2.1.split.2.1.split.2.1.split.2.1.split.2.1.split.2.1.split.2.1
  have ce10_13 := OT.cell o10_13
  have ne11 : ((hn h .mk) == (hn g10 .mk)) = false := by simp; omega
  have nf11 : ((hn g10 .mk) == (hn h .mk)) = false := by simp; omega
  have ne12 : ((hn h .mk + 1) == (hn g10 .mk)) = false := by simp; omega
  have nf12 : ((hn g10 .mk) == (hn h .mk + 1)) = false := by simp; omega
  repeat (first | rw [kz_o] | rw [kz_r0] | simp -dsimp -implicitDefEqProofs only [go_sem, Nat.reduceBEq, Nat.reduceAdd, Nat.reduceLeDiff, Nat.reduceMul, Int.reduceLE, Int.reduceLT, Int.reduceBEq, ce10_3, ce10_4, ce10_5, ce10_6, ce10_8, ce10_9, ce10_12, ce10_13, row0, row1, ne11, nf11, ne12, nf12, hoo])
  refine wz_intro (toConfig_ok (by omega)) ?_
  rintro _ g13 ⟨l13, ys13, b13, rfl, o13, bl13⟩
  try simp only [hn_push, hn_up] at bl13
  have nn13 := l13.n
  try simp only [hn_push, hn_up] at nn13
  have LL13 : g10.le g13 := H2.le.trans (by repeat (first | exact H2.le.refl _ | apply le_push | refine le_up ?_ (by assumption))) l13
  have ln13 := LL13.n
  replace o10_3 := o10_3.keep LL13 (bl10_3.wide (Nat.le_refl _) (by omega))
  replace o10_4 := o10_4.keep LL13 (bl10_4.wide (Nat.le_refl _) (by omega))
  replace o10_5 := o10_5.keep LL13 (bl10_5.wide (Nat.le_refl _) (by omega))
  replace o10_6 := o10_6.keep LL13 (bl10_6.wide (Nat.le_refl _) (by omega))
  replace o10_8 := o10_8.keep LL13 (bl10_8.wide (Nat.le_refl _) (by omega))
  replace o10_9 := o10_9.keep LL13 (bl10_9.wide (Nat.le_refl _) (by omega))
  replace o10_12 := o10_12.keep LL13 (bl10_12.wide (Nat.le_refl _) (by omega))
  replace o10_13 := o10_13.keep LL13 (bl10_13.wide (Nat.le_refl _) (by omega))
  replace row0 := (LL13.2 (hn h .mk) (by omega)).trans row0
  replace row1 := (LL13.2 (hn h .mk + 1) (by omega)).trans row1
  have row2 : hg g13 (hn g10 .mk) .mk = some ⟨14, [.raw (.int .i64 m.dim), .raw (.int .i64 m.heads), .raw (.int .i64 m.context), s10_3, s10_4, s10_5, s10_6, .raw (.int .i64 m.head.width), s10_8, s10_9, .raw (.int .i64 m.head.mul), .raw (.int .i64 m.head.shift), s10_12, s10_13]⟩ := (l13.2 (hn g10 .mk) (by simp only [hn_push, hn_up]; omega)).trans (by simp -dsimp -implicitDefEqProofs only [go_sem, Nat.reduceBEq, Nat.reduceAdd, Nat.reduceLeDiff, Nat.reduceMul, Int.reduceLE, Int.reduceLT, Int.reduceBEq, ne11, nf11, ne12, nf12, ce10_3, ce10_4, ce10_5, ce10_6, ce10_8, ce10_9, ce10_12, ce10_13, row0, row1, hoo])
  obtain ⟨b13_3, s13_3, rfl, rfl, o13_3⟩ := invConfig o13
  clear o13
  have bl13_3 := bl13
  have ce13_3 := OT.cell o13_3
  have ne14 : ((hn h .mk) == (hn g13 .mk)) = false := by simp; omega
  have nf14 : ((hn g13 .mk) == (hn h .mk)) = false := by simp; omega
  have ne15 : ((hn h .mk + 1) == (hn g13 .mk)) = false := by simp; omega
  have nf15 : ((hn g13 .mk) == (hn h .mk + 1)) = false := by simp; omega
  have ne16 : ((hn g10 .mk) == (hn g13 .mk)) = false := by simp; omega
  have nf16 : ((hn g13 .mk) == (hn g10 .mk)) = false := by simp; omega
  repeat (first | rw [kz_o] | rw [kz_r0] | simp -dsimp -implicitDefEqProofs only [go_sem, Nat.reduceBEq, Nat.reduceAdd, Nat.reduceLeDiff, Nat.reduceMul, Int.reduceLE, Int.reduceLT, Int.reduceBEq, ne11, nf11, ne12, nf12, ce10_3, ce10_4, ce10_5, ce10_6, ce10_8, ce10_9, ce10_12, ce10_13, ce13_3, row0, row1, row2, ne14, nf14, ne15, nf15, ne16, nf16, hoo])
  refine wz_intro (toIntS_new (by omega)) ?_
  rintro s17 g17 ⟨l17, b17, o17, bl17⟩
  try simp only [hn_push, hn_up] at bl17
  have nn17 := l17.n
  try simp only [hn_push, hn_up] at nn17
  have LL17 : g13.le g17 := H2.le.trans (by repeat (first | exact H2.le.refl _ | apply le_push | refine le_up ?_ (by assumption))) l17
  have ln17 := LL17.n
  replace o10_3 := o10_3.keep LL17 (bl10_3.wide (Nat.le_refl _) (by omega))
  replace o10_4 := o10_4.keep LL17 (bl10_4.wide (Nat.le_refl _) (by omega))
  replace o10_5 := o10_5.keep LL17 (bl10_5.wide (Nat.le_refl _) (by omega))
  replace o10_6 := o10_6.keep LL17 (bl10_6.wide (Nat.le_refl _) (by omega))
  replace o10_8 := o10_8.keep LL17 (bl10_8.wide (Nat.le_refl _) (by omega))
  replace o10_9 := o10_9.keep LL17 (bl10_9.wide (Nat.le_refl _) (by omega))
  replace o10_12 := o10_12.keep LL17 (bl10_12.wide (Nat.le_refl _) (by omega))
  replace o10_13 := o10_13.keep LL17 (bl10_13.wide (Nat.le_refl _) (by omega))
  replace o13_3 := o13_3.keep LL17 (bl13_3.wide (Nat.le_refl _) (by omega))
  replace row0 := (LL17.2 (hn h .mk) (by omega)).trans row0
  replace row1 := (LL17.2 (hn h .mk + 1) (by omega)).trans row1
  replace row2 := (LL17.2 (hn g10 .mk) (by omega)).trans row2
  have row3 : hg g17 (hn g13 .mk) .mk = some ⟨4, [.raw (.int .i64 c.top), .raw (.int .i64 c.seed), .raw (.int .i64 c.new), s13_3]⟩ := (l17.2 (hn g13 .mk) (by simp only [hn_push, hn_up]; omega)).trans (by simp -dsimp -implicitDefEqProofs only [go_sem, Nat.reduceBEq, Nat.reduceAdd, Nat.reduceLeDiff, Nat.reduceMul, Int.reduceLE, Int.reduceLT, Int.reduceBEq, ne11, nf11, ne12, nf12, ne14, nf14, ne15, nf15, ne16, nf16, ce10_3, ce10_4, ce10_5, ce10_6, ce10_8, ce10_9, ce10_12, ce10_13, ce13_3, row0, row1, row2, hoo])
  have ce17 := OT.cell o17
  repeat (first | rw [kz_o] | rw [kz_r0] | simp -dsimp -implicitDefEqProofs only [go_sem, Nat.reduceBEq, Nat.reduceAdd, Nat.reduceLeDiff, Nat.reduceMul, Int.reduceLE, Int.reduceLT, Int.reduceBEq, ne11, nf11, ne12, nf12, ne14, nf14, ne15, nf15, ne16, nf16, ce10_3, ce10_4, ce10_5, ce10_6, ce10_8, ce10_9, ce10_12, ce10_13, ce13_3, ce17, row0, row1, row2, row3, hoo])
  refine wz_intro (implStopped_tree (outModel (c := m) (o10_3.keep (by repeat (first | exact H2.le.refl _ | apply le_push | refine le_up ?_ (by assumption))) (bl10_3.wide (Nat.le_refl _) (by omega))) (o10_4.keep (by repeat (first | exact H2.le.refl _ | apply le_push | refine le_up ?_ (by assumption))) (bl10_4.wide (Nat.le_refl _) (by omega))) (o10_5.keep (by repeat (first | exact H2.le.refl _ | apply le_push | refine le_up ?_ (by assumption))) (bl10_5.wide (Nat.le_refl _) (by omega))) (o10_6.keep (by repeat (first | exact H2.le.refl _ | apply le_push | refine le_up ?_ (by assumption))) (bl10_6.wide (Nat.le_refl _) (by omega))) (o10_8.keep (by repeat (first | exact H2.le.refl _ | apply le_push | refine le_up ?_ (by assumption))) (bl10_8.wide (Nat.le_refl _) (by omega))) (o10_9.keep (by repeat (first | exact H2.le.refl _ | apply le_push | refine le_up ?_ (by assumption))) (bl10_9.wide (Nat.le_refl _) (by omega))) (o10_12.keep (by repeat (first | exact H2.le.refl _ | apply le_push | refine le_up ?_ (by assumption))) (bl10_12.wide (Nat.le_refl _) (by omega))) (o10_13.keep (by repeat (first | exact H2.le.refl _ | apply le_push | refine le_up ?_ (by assumption))) (bl10_13.wide (Nat.le_refl _) (by omega)))) (outConfig (c := c) (o13_3.keep (by repeat (first | exact H2.le.refl _ | apply le_push | refine le_up ?_ (by assumption))) (bl13_3.wide (Nat.le_refl _) (by omega)))) (o17.keep (by repeat (first | exact H2.le.refl _ | apply le_push | refine le_up ?_ (by assumption))) (bl17.wide (Nat.le_refl _) (by omega))) hW hm1 ht1 hc1 hz1) ?_
  rintro _ g18 ⟨l18, rfl⟩
  have nn18 := l18.n
  try simp only [hn_push, hn_up] at nn18
  have LL18 : g17.le g18 := H2.le.trans (by repeat (first | exact H2.le.refl _ | apply le_push | refine le_up ?_ (by assumption))) l18
  have ln18 := LL18.n
  replace o10_3 := o10_3.keep LL18 (bl10_3.wide (Nat.le_refl _) (by omega))
  replace o10_4 := o10_4.keep LL18 (bl10_4.wide (Nat.le_refl _) (by omega))
  replace o10_5 := o10_5.keep LL18 (bl10_5.wide (Nat.le_refl _) (by omega))
  replace o10_6 := o10_6.keep LL18 (bl10_6.wide (Nat.le_refl _) (by omega))
  replace o10_8 := o10_8.keep LL18 (bl10_8.wide (Nat.le_refl _) (by omega))
  replace o10_9 := o10_9.keep LL18 (bl10_9.wide (Nat.le_refl _) (by omega))
  replace o10_12 := o10_12.keep LL18 (bl10_12.wide (Nat.le_refl _) (by omega))
  replace o10_13 := o10_13.keep LL18 (bl10_13.wide (Nat.le_refl _) (by omega))
  replace o13_3 := o13_3.keep LL18 (bl13_3.wide (Nat.le_refl _) (by omega))
  replace o17 := o17.keep LL18 (bl17.wide (Nat.le_refl _) (by omega))
  replace row0 := (LL18.2 (hn h .mk) (by omega)).trans row0
  replace row1 := (LL18.2 (hn h .mk + 1) (by omega)).trans row1
  replace row2 := (LL18.2 (hn g10 .mk) (by omega)).trans row2
  replace row3 := (LL18.2 (hn g13 .mk) (by omega)).trans row3
  repeat (first | rw [kz_o] | rw [kz_r0] | simp -dsimp -implicitDefEqProofs only [go_sem, Nat.reduceBEq, Nat.reduceAdd, Nat.reduceLeDiff, Nat.reduceMul, Int.reduceLE, Int.reduceLT, Int.reduceBEq, ne11, nf11, ne12, nf12, ne14, nf14, ne15, nf15, ne16, nf16, ce10_3, ce10_4, ce10_5, ce10_6, ce10_8, ce10_9, ce10_12, ce10_13, ce13_3, ce17, row0, row1, row2, row3, hoo])
  refine dq_intro [(0, []), (1, []), (2, [0]), (3, []), (4, [])] (by kernel_rfl) ?_
  repeat (first | rw [kz_o] | rw [kz_r0] | simp -dsimp -implicitDefEqProofs only [go_sem, Nat.reduceBEq, Nat.reduceAdd, Nat.reduceLeDiff, Nat.reduceMul, Int.reduceLE, Int.reduceLT, Int.reduceBEq, ne11, nf11, ne12, nf12, ne14, nf14, ne15, nf15, ne16, nf16, ce10_3, ce10_4, ce10_5, ce10_6, ce10_8, ce10_9, ce10_12, ce10_13, ce13_3, ce17, row0, row1, row2, row3, hoo])
  refine wz_intro (toModel_ok (by omega)) ?_
  rintro _ g19 ⟨l19, ys19, b19, rfl, o19, bl19⟩
  try simp only [hn_push, hn_up] at bl19
  have nn19 := l19.n
  try simp only [hn_push, hn_up] at nn19
  have LL19 : g18.le g19 := H2.le.trans (by repeat (first | exact H2.le.refl _ | apply le_push | refine le_up ?_ (by assumption))) l19
  have ln19 := LL19.n
  replace o10_3 := o10_3.keep LL19 (bl10_3.wide (Nat.le_refl _) (by omega))
  replace o10_4 := o10_4.keep LL19 (bl10_4.wide (Nat.le_refl _) (by omega))
  replace o10_5 := o10_5.keep LL19 (bl10_5.wide (Nat.le_refl _) (by omega))
  replace o10_6 := o10_6.keep LL19 (bl10_6.wide (Nat.le_refl _) (by omega))
  replace o10_8 := o10_8.keep LL19 (bl10_8.wide (Nat.le_refl _) (by omega))
  replace o10_9 := o10_9.keep LL19 (bl10_9.wide (Nat.le_refl _) (by omega))
  replace o10_12 := o10_12.keep LL19 (bl10_12.wide (Nat.le_refl _) (by omega))
  replace o10_13 := o10_13.keep LL19 (bl10_13.wide (Nat.le_refl _) (by omega))
  replace o13_3 := o13_3.keep LL19 (bl13_3.wide (Nat.le_refl _) (by omega))
  replace o17 := o17.keep LL19 (bl17.wide (Nat.le_refl _) (by omega))
  replace row0 := (LL19.2 (hn h .mk) (by omega)).trans row0
  replace row1 := (LL19.2 (hn h .mk + 1) (by omega)).trans row1
  replace row2 := (LL19.2 (hn g10 .mk) (by omega)).trans row2
  replace row3 := (LL19.2 (hn g13 .mk) (by omega)).trans row3
  obtain ⟨b19_3, s19_3, b19_4, s19_4, b19_5, s19_5, b19_6, s19_6, b19_8, s19_8, b19_9, s19_9, b19_12, s19_12, b19_13, s19_13, rfl, rfl, o19_3, o19_4, o19_5, o19_6, o19_8, o19_9, o19_12, o19_13⟩ := invModel o19
  clear o19
  have bl19_3 := bl19.split.1
  have ce19_3 := OT.cell o19_3
  have bl19_4 := bl19.split.2.1.split.1
  have ce19_4 := OT.cell o19_4
  have bl19_5 := bl19.split.2.1.split.2.1.split.1
  have ce19_5 := OT.cell o19_5
  have bl19_6 := bl19.split.2.1.split.2.1.split.2.1.split.1
  have ce19_6 := OT.cell o19_6
  have bl19_8 := bl19.split.2.1.split.2.1.split.2.1.split.2.1.split.1
  have ce19_8 := OT.cell o19_8
  have bl19_9 := bl19.split.2.1.split.2.1.split.2.1.split.2.1.split.2.1.split.1
  have ce19_9 := OT.cell o19_9
  have bl19_12 := bl19.split.2.1.split.2.1.split.2.1.split.2.1.split.2.1.split.2.1.split.1
  have ce19_12 := OT.cell o19_12
  have bl19_13 := bl19.split.2.1.split.2.1.split.2.1.split.2.1.split.2.1.split.2.1.split.2.1
  have ce19_13 := OT.cell o19_13
  rw [kz_r]
  refine ⟨by simp -dsimp -implicitDefEqProofs only [go_sem, Nat.reduceBEq, Nat.reduceAdd, Nat.reduceLeDiff, Nat.reduceMul, Int.reduceLE, Int.reduceLT, Int.reduceBEq, ne11, nf11, ne12, nf12, ne14, nf14, ne15, nf15, ne16, nf16, ce10_3, ce10_4, ce10_5, ce10_6, ce10_8, ce10_9, ce10_12, ce10_13, ce13_3, ce17, ce19_3, ce19_4, ce19_5, ce19_6, ce19_8, ce19_9, ce19_12, ce19_13, row0, row1, row2, row3, hoo], ?_⟩
  repeat (first | rw [kz_o] | rw [kz_r0] | simp -dsimp -implicitDefEqProofs only [go_sem, Nat.reduceBEq, Nat.reduceAdd, Nat.reduceLeDiff, Nat.reduceMul, Int.reduceLE, Int.reduceLT, Int.reduceBEq, ne11, nf11, ne12, nf12, ne14, nf14, ne15, nf15, ne16, nf16, ce10_3, ce10_4, ce10_5, ce10_6, ce10_8, ce10_9, ce10_12, ce10_13, ce13_3, ce17, ce19_3, ce19_4, ce19_5, ce19_6, ce19_8, ce19_9, ce19_12, ce19_13, row0, row1, row2, row3, hoo])
  refine pw_intro (eqModel_tree (outModel (c := m) (o10_3.keep (by repeat (first | exact H2.le.refl _ | apply le_push | refine le_up ?_ (by assumption))) (bl10_3.wide (Nat.le_refl _) (by omega))) (o10_4.keep (by repeat (first | exact H2.le.refl _ | apply le_push | refine le_up ?_ (by assumption))) (bl10_4.wide (Nat.le_refl _) (by omega))) (o10_5.keep (by repeat (first | exact H2.le.refl _ | apply le_push | refine le_up ?_ (by assumption))) (bl10_5.wide (Nat.le_refl _) (by omega))) (o10_6.keep (by repeat (first | exact H2.le.refl _ | apply le_push | refine le_up ?_ (by assumption))) (bl10_6.wide (Nat.le_refl _) (by omega))) (o10_8.keep (by repeat (first | exact H2.le.refl _ | apply le_push | refine le_up ?_ (by assumption))) (bl10_8.wide (Nat.le_refl _) (by omega))) (o10_9.keep (by repeat (first | exact H2.le.refl _ | apply le_push | refine le_up ?_ (by assumption))) (bl10_9.wide (Nat.le_refl _) (by omega))) (o10_12.keep (by repeat (first | exact H2.le.refl _ | apply le_push | refine le_up ?_ (by assumption))) (bl10_12.wide (Nat.le_refl _) (by omega))) (o10_13.keep (by repeat (first | exact H2.le.refl _ | apply le_push | refine le_up ?_ (by assumption))) (bl10_13.wide (Nat.le_refl _) (by omega)))) (outModel (c := m) (o19_3.keep (by repeat (first | exact H2.le.refl _ | apply le_push | refine le_up ?_ (by assumption))) (bl19_3.wide (Nat.le_refl _) (by omega))) (o19_4.keep (by repeat (first | exact H2.le.refl _ | apply le_push | refine le_up ?_ (by assumption))) (bl19_4.wide (Nat.le_refl _) (by omega))) (o19_5.keep (by repeat (first | exact H2.le.refl _ | apply le_push | refine le_up ?_ (by assumption))) (bl19_5.wide (Nat.le_refl _) (by omega))) (o19_6.keep (by repeat (first | exact H2.le.refl _ | apply le_push | refine le_up ?_ (by assumption))) (bl19_6.wide (Nat.le_refl _) (by omega))) (o19_8.keep (by repeat (first | exact H2.le.refl _ | apply le_push | refine le_up ?_ (by assumption))) (bl19_8.wide (Nat.le_refl _) (by omega))) (o19_9.keep (by repeat (first | exact H2.le.refl _ | apply le_push | refine le_up ?_ (by assumption))) (bl19_9.wide (Nat.le_refl _) (by omega))) (o19_12.keep (by repeat (first | exact H2.le.refl _ | apply le_push | refine le_up ?_ (by assumption))) (bl19_12.wide (Nat.le_refl _) (by omega))) (o19_13.keep (by repeat (first | exact H2.le.refl _ | apply le_push | refine le_up ?_ (by assumption))) (bl19_13.wide (Nat.le_refl _) (by omega)))) hf0) ?_
  rintro _ n20 hn20 rfl
  have hm20 := hn20
  try simp only [hn_push, hn_up] at hm20
  repeat (first | rw [kz_o] | rw [kz_r0] | simp -dsimp -implicitDefEqProofs only [go_sem, Nat.reduceBEq, Nat.reduceAdd, Nat.reduceLeDiff, Nat.reduceMul, Int.reduceLE, Int.reduceLT, Int.reduceBEq, ne11, nf11, ne12, nf12, ne14, nf14, ne15, nf15, ne16, nf16, ce10_3, ce10_4, ce10_5, ce10_6, ce10_8, ce10_9, ce10_12, ce10_13, ce13_3, ce17, row0, row1, row2, row3, hoo])
  refine dq_intro [(0, []), (1, []), (2, [0]), (3, []), (4, [])] (by kernel_rfl) ?_
  repeat (first | rw [kz_o] | rw [kz_r0] | simp -dsimp -implicitDefEqProofs only [go_sem, Nat.reduceBEq, Nat.reduceAdd, Nat.reduceLeDiff, Nat.reduceMul, Int.reduceLE, Int.reduceLT, Int.reduceBEq, ne11, nf11, ne12, nf12, ne14, nf14, ne15, nf15, ne16, nf16, ce10_3, ce10_4, ce10_5, ce10_6, ce10_8, ce10_9, ce10_12, ce10_13, ce13_3, ce17, row0, row1, row2, row3, hoo])
  refine wz_intro (toConfig_ok (by omega)) ?_
  rintro _ g21 ⟨l21, ys21, b21, rfl, o21, bl21⟩
  try simp only [hn_push, hn_up] at bl21
  have nn21 := l21.n
  try simp only [hn_push, hn_up] at nn21
  have LL21 : g19.le g21 := H2.le.trans (by repeat (first | exact H2.le.refl _ | apply le_push | refine le_up ?_ (by assumption))) l21
  have ln21 := LL21.n
  replace o10_3 := o10_3.keep LL21 (bl10_3.wide (Nat.le_refl _) (by omega))
  replace o10_4 := o10_4.keep LL21 (bl10_4.wide (Nat.le_refl _) (by omega))
  replace o10_5 := o10_5.keep LL21 (bl10_5.wide (Nat.le_refl _) (by omega))
  replace o10_6 := o10_6.keep LL21 (bl10_6.wide (Nat.le_refl _) (by omega))
  replace o10_8 := o10_8.keep LL21 (bl10_8.wide (Nat.le_refl _) (by omega))
  replace o10_9 := o10_9.keep LL21 (bl10_9.wide (Nat.le_refl _) (by omega))
  replace o10_12 := o10_12.keep LL21 (bl10_12.wide (Nat.le_refl _) (by omega))
  replace o10_13 := o10_13.keep LL21 (bl10_13.wide (Nat.le_refl _) (by omega))
  replace o13_3 := o13_3.keep LL21 (bl13_3.wide (Nat.le_refl _) (by omega))
  replace o17 := o17.keep LL21 (bl17.wide (Nat.le_refl _) (by omega))
  replace row0 := (LL21.2 (hn h .mk) (by omega)).trans row0
  replace row1 := (LL21.2 (hn h .mk + 1) (by omega)).trans row1
  replace row2 := (LL21.2 (hn g10 .mk) (by omega)).trans row2
  replace row3 := (LL21.2 (hn g13 .mk) (by omega)).trans row3
  obtain ⟨b21_3, s21_3, rfl, rfl, o21_3⟩ := invConfig o21
  clear o21
  have bl21_3 := bl21
  have ce21_3 := OT.cell o21_3
  rw [kz_r]
  refine ⟨by simp -dsimp -implicitDefEqProofs only [go_sem, Nat.reduceBEq, Nat.reduceAdd, Nat.reduceLeDiff, Nat.reduceMul, Int.reduceLE, Int.reduceLT, Int.reduceBEq, ne11, nf11, ne12, nf12, ne14, nf14, ne15, nf15, ne16, nf16, ce10_3, ce10_4, ce10_5, ce10_6, ce10_8, ce10_9, ce10_12, ce10_13, ce13_3, ce17, ce21_3, row0, row1, row2, row3, hoo], ?_⟩
  repeat (first | rw [kz_o] | rw [kz_r0] | simp -dsimp -implicitDefEqProofs only [go_sem, Nat.reduceBEq, Nat.reduceAdd, Nat.reduceLeDiff, Nat.reduceMul, Int.reduceLE, Int.reduceLT, Int.reduceBEq, ne11, nf11, ne12, nf12, ne14, nf14, ne15, nf15, ne16, nf16, ce10_3, ce10_4, ce10_5, ce10_6, ce10_8, ce10_9, ce10_12, ce10_13, ce13_3, ce17, ce21_3, row0, row1, row2, row3, hoo])
  refine pw_intro (eqConfig_tree (outConfig (c := c) (o13_3.keep (by repeat (first | exact H2.le.refl _ | apply le_push | refine le_up ?_ (by assumption))) (bl13_3.wide (Nat.le_refl _) (by omega)))) (outConfig (c := c) (o21_3.keep (by repeat (first | exact H2.le.refl _ | apply le_push | refine le_up ?_ (by assumption))) (bl21_3.wide (Nat.le_refl _) (by omega)))) hf1) ?_
  rintro _ n22 hn22 rfl
  have hm22 := hn22
  try simp only [hn_push, hn_up] at hm22
  repeat (first | rw [kz_o] | rw [kz_r0] | simp -dsimp -implicitDefEqProofs only [go_sem, Nat.reduceBEq, Nat.reduceAdd, Nat.reduceLeDiff, Nat.reduceMul, Int.reduceLE, Int.reduceLT, Int.reduceBEq, ne11, nf11, ne12, nf12, ne14, nf14, ne15, nf15, ne16, nf16, ce10_3, ce10_4, ce10_5, ce10_6, ce10_8, ce10_9, ce10_12, ce10_13, ce13_3, ce17, row0, row1, row2, row3, hoo])
  refine wz_intro (toIntS_new (by omega)) ?_
  rintro s23 g23 ⟨l23, b23, o23, bl23⟩
  try simp only [hn_push, hn_up] at bl23
  have nn23 := l23.n
  try simp only [hn_push, hn_up] at nn23
  have LL23 : g21.le g23 := H2.le.trans (by repeat (first | exact H2.le.refl _ | apply le_push | refine le_up ?_ (by assumption))) l23
  have ln23 := LL23.n
  replace o10_3 := o10_3.keep LL23 (bl10_3.wide (Nat.le_refl _) (by omega))
  replace o10_4 := o10_4.keep LL23 (bl10_4.wide (Nat.le_refl _) (by omega))
  replace o10_5 := o10_5.keep LL23 (bl10_5.wide (Nat.le_refl _) (by omega))
  replace o10_6 := o10_6.keep LL23 (bl10_6.wide (Nat.le_refl _) (by omega))
  replace o10_8 := o10_8.keep LL23 (bl10_8.wide (Nat.le_refl _) (by omega))
  replace o10_9 := o10_9.keep LL23 (bl10_9.wide (Nat.le_refl _) (by omega))
  replace o10_12 := o10_12.keep LL23 (bl10_12.wide (Nat.le_refl _) (by omega))
  replace o10_13 := o10_13.keep LL23 (bl10_13.wide (Nat.le_refl _) (by omega))
  replace o13_3 := o13_3.keep LL23 (bl13_3.wide (Nat.le_refl _) (by omega))
  replace o17 := o17.keep LL23 (bl17.wide (Nat.le_refl _) (by omega))
  replace row0 := (LL23.2 (hn h .mk) (by omega)).trans row0
  replace row1 := (LL23.2 (hn h .mk + 1) (by omega)).trans row1
  replace row2 := (LL23.2 (hn g10 .mk) (by omega)).trans row2
  replace row3 := (LL23.2 (hn g13 .mk) (by omega)).trans row3
  have ce23 := OT.cell o23
  repeat (first | rw [kz_o] | rw [kz_r0] | simp -dsimp -implicitDefEqProofs only [go_sem, Nat.reduceBEq, Nat.reduceAdd, Nat.reduceLeDiff, Nat.reduceMul, Int.reduceLE, Int.reduceLT, Int.reduceBEq, ne11, nf11, ne12, nf12, ne14, nf14, ne15, nf15, ne16, nf16, ce10_3, ce10_4, ce10_5, ce10_6, ce10_8, ce10_9, ce10_12, ce10_13, ce13_3, ce17, ce23, row0, row1, row2, row3, hoo])
  refine pw_intro (eqIntS_tree (o17.keep (by repeat (first | exact H2.le.refl _ | apply le_push | refine le_up ?_ (by assumption))) (bl17.wide (Nat.le_refl _) (by omega))) (o23.keep (by repeat (first | exact H2.le.refl _ | apply le_push | refine le_up ?_ (by assumption))) (bl23.wide (Nat.le_refl _) (by omega))) (by omega)) ?_
  rintro _ n24 hn24 rfl
  have hm24 := hn24
  try simp only [hn_push, hn_up] at hm24
  repeat (first | rw [kz_o] | rw [kz_r0] | simp -dsimp -implicitDefEqProofs only [go_sem, Nat.reduceBEq, Nat.reduceAdd, Nat.reduceLeDiff, Nat.reduceMul, Int.reduceLE, Int.reduceLT, Int.reduceBEq, ne11, nf11, ne12, nf12, ne14, nf14, ne15, nf15, ne16, nf16, ce10_3, ce10_4, ce10_5, ce10_6, ce10_8, ce10_9, ce10_12, ce10_13, ce13_3, ce17, row0, row1, row2, row3, hoo])
  rfl
end Go.Bi
