/- The walk of the law on FnExactAdmit. -/
import Derived.Test.YtjofbadmkigkjaaHh
set_option linter.unusedSimpArgs false
set_option linter.unusedVariables false
set_option maxRecDepth 20000
namespace Go.Bi
open Go.Proofs
open Go.Ai (wrap_i64 wrap_u64 wrap_u8)
variable {W0 : World}
theorem FnExactAdmit_ok {F0 : Nat → Adr} {e : LEngine} {f1 : Adr} {p : List Int} {F2 : Nat → Adr} {c : LConfig} {h : H2} (hf0 : fitEngine e) (hf1 : p.length ≤ 9223372036854775807) (hf2 : fitConfig c)  : WC2 Try.prog W0 5 [.st (xEngine F0 e), .sl f1 1 (ints p), .st (xConfig F2 c)] h (fun v h' => v = .raw (.bool true)) := by
  refine start (P := Try.prog) [[0, 1, 2], [1, 3, 5], [], [1, 3, 5], [1, 3, 5, 7], [1, 3, 5, 7], [], [1, 3, 5, 7], [1, 3, 5, 7], [], [1, 3, 5], [1, 3, 5, 8], [1, 3, 5, 8, 9], [1, 3, 5, 8, 9, 10], [1, 3, 5, 8, 9, 10, 11], [1, 3, 5, 8, 9, 10, 11, 12], [], [1, 3, 5, 9, 10, 11], [], [1, 5, 10, 11], [], [5, 11], [], []] (by kernel_rfl) Try.func5 rfl (by decide) (by decide +kernel) (rs := [.tmp 6]) rfl rfl (Nat.le_of_ble_eq_true rfl) ?_
  intro wf
  repeat (first | rw [kz_o] | rw [kz_r0] | simp -dsimp -implicitDefEqProofs only [go_sem, Nat.reduceBEq, Nat.reduceAdd, Nat.reduceLeDiff, Nat.reduceMul, Int.reduceLE, Int.reduceLT, Int.reduceBEq])
  refine gz_dec (fun q1 => ?_) (fun q1 => ?_)
  · repeat (first | rw [kz_o] | rw [kz_r0] | simp -dsimp -implicitDefEqProofs only [go_sem, Nat.reduceBEq, Nat.reduceAdd, Nat.reduceLeDiff, Nat.reduceMul, Int.reduceLE, Int.reduceLT, Int.reduceBEq])
    rfl
  repeat (first | rw [kz_o] | rw [kz_r0] | simp -dsimp -implicitDefEqProofs only [go_sem, Nat.reduceBEq, Nat.reduceAdd, Nat.reduceLeDiff, Nat.reduceMul, Int.reduceLE, Int.reduceLT, Int.reduceBEq, hoo])
  refine pw_intro (szEngine_ok hf0 ⟨by omega, by omega⟩) ?_
  rintro _ n2 hn2 ⟨k2, rfl, hk2⟩
  have hm2 := hn2
  try simp only [hn_push, hn_up] at hm2
  repeat (first | rw [kz_o] | rw [kz_r0] | simp -dsimp -implicitDefEqProofs only [go_sem, Nat.reduceBEq, Nat.reduceAdd, Nat.reduceLeDiff, Nat.reduceMul, Int.reduceLE, Int.reduceLT, Int.reduceBEq, hoo])
  refine gz_dec (fun q3 => ?_) (fun q3 => ?_)
  · repeat (first | rw [kz_o] | rw [kz_r0] | simp -dsimp -implicitDefEqProofs only [go_sem, Nat.reduceBEq, Nat.reduceAdd, Nat.reduceLeDiff, Nat.reduceMul, Int.reduceLE, Int.reduceLT, Int.reduceBEq])
    rfl
  repeat (first | rw [kz_o] | rw [kz_r0] | simp -dsimp -implicitDefEqProofs only [go_sem, Nat.reduceBEq, Nat.reduceAdd, Nat.reduceLeDiff, Nat.reduceMul, Int.reduceLE, Int.reduceLT, Int.reduceBEq, hoo])
  refine pw_intro (szConfig_ok hf2 ⟨by omega, by omega⟩) ?_
  rintro _ n4 hn4 ⟨k4, rfl, hk4⟩
  have hm4 := hn4
  try simp only [hn_push, hn_up] at hm4
  repeat (first | rw [kz_o] | rw [kz_r0] | simp -dsimp -implicitDefEqProofs only [go_sem, Nat.reduceBEq, Nat.reduceAdd, Nat.reduceLeDiff, Nat.reduceMul, Int.reduceLE, Int.reduceLT, Int.reduceBEq, hoo])
  refine gz_dec (fun q5 => ?_) (fun q5 => ?_)
  · repeat (first | rw [kz_o] | rw [kz_r0] | simp -dsimp -implicitDefEqProofs only [go_sem, Nat.reduceBEq, Nat.reduceAdd, Nat.reduceLeDiff, Nat.reduceMul, Int.reduceLE, Int.reduceLT, Int.reduceBEq])
    rfl
  have hsz_e : szEngine e ≤ 1048576 := by omega
  have hsz_c : szConfig c ≤ 1048576 := by omega
  have hm1 : e.model.merges.length ≤ 1048576 := by simp only [szEngine, szModel, szMergeS] at hsz_e; omega
  repeat (first | rw [kz_o] | rw [kz_r0] | simp -dsimp -implicitDefEqProofs only [go_sem, Nat.reduceBEq, Nat.reduceAdd, Nat.reduceLeDiff, Nat.reduceMul, Int.reduceLE, Int.reduceLT, Int.reduceBEq, hoo])
  refine dq_intro [(0, []), (2, []), (4, []), (1, [4]), (3, [4]), (5, []), (6, []), (7, [])] (by kernel_rfl) ?_
  repeat (first | rw [kz_o] | rw [kz_r0] | simp -dsimp -implicitDefEqProofs only [go_sem, Nat.reduceBEq, Nat.reduceAdd, Nat.reduceLeDiff, Nat.reduceMul, Int.reduceLE, Int.reduceLT, Int.reduceBEq, hoo])
  refine wz_intro (toEngine_ok (by omega)) ?_
  rintro _ g6 ⟨l6, ys6, b6, rfl, o6, bl6⟩
  try simp only [hn_push, hn_up] at bl6
  have nn6 := l6.n
  try simp only [hn_push, hn_up] at nn6
  have LL6 : h.le g6 := H2.le.trans (by repeat (first | exact H2.le.refl _ | apply le_push | refine le_up ?_ (by assumption))) l6
  have ln6 := LL6.n
  have row0 : hg g6 (hn h .mk) .mk = some ⟨17, xEngine F0 e⟩ := (l6.2 (hn h .mk) (by simp only [hn_push, hn_up]; omega)).trans (by simp -dsimp -implicitDefEqProofs only [go_sem, Nat.reduceBEq, Nat.reduceAdd, Nat.reduceLeDiff, Nat.reduceMul, Int.reduceLE, Int.reduceLT, Int.reduceBEq, hoo])
  have row1 : hg g6 (hn h .mk + 1) .mk = some ⟨4, xConfig F2 c⟩ := (l6.2 (hn h .mk + 1) (by simp only [hn_push, hn_up]; omega)).trans (by simp -dsimp -implicitDefEqProofs only [go_sem, Nat.reduceBEq, Nat.reduceAdd, Nat.reduceLeDiff, Nat.reduceMul, Int.reduceLE, Int.reduceLT, Int.reduceBEq, row0, hoo])
  obtain ⟨b6_3, s6_3, b6_4, s6_4, b6_5, s6_5, b6_6, s6_6, b6_8, s6_8, b6_9, s6_9, b6_12, s6_12, b6_13, s6_13, b6_14, s6_14, b6_15, s6_15, b6_16, s6_16, rfl, rfl, o6_3, o6_4, o6_5, o6_6, o6_8, o6_9, o6_12, o6_13, o6_14, o6_15, o6_16⟩ := invEngine o6
  clear o6
  have bl6_3 := bl6.split.1
  have ce6_3 := OT.cell o6_3
  have bl6_4 := bl6.split.2.1.split.1
  have ce6_4 := OT.cell o6_4
  have bl6_5 := bl6.split.2.1.split.2.1.split.1
  have ce6_5 := OT.cell o6_5
  have bl6_6 := bl6.split.2.1.split.2.1.split.2.1.split.1
  have ce6_6 := OT.cell o6_6
  have bl6_8 := bl6.split.2.1.split.2.1.split.2.1.split.2.1.split.1
  have ce6_8 := OT.cell o6_8
  have bl6_9 := bl6.split.2.1.split.2.1.split.2.1.split.2.1.split.2.1.split.1
  have ce6_9 := OT.cell o6_9
  have bl6_12 := bl6.split.2.1.split.2.1.split.2.1.split.2.1.split.2.1.split.2.1.split.1
  have ce6_12 := OT.cell o6_12
  have bl6_13 := bl6.split.2.1.split.2.1.split.2.1.split.2.1.split.2.1.split.2.1.split.2.1.split.1
  have ce6_13 := OT.cell o6_13
  have bl6_14 := bl6.split.2.1.split.2.1.split.2.1.split.2.1.split.2.1.split.2.1.split.2.1.split.2.1.split.1
  have ce6_14 := OT.cell o6_14
  have bl6_15 := bl6.split.2.1.split.2.1.split.2.1.split.2.1.split.2.1.split.2.1.split.2.1.split.2.1.split.2.1.split.1
  have ce6_15 := OT.cell o6_15
  have bl6_16 := bl6.split.2.1.split.2.1.split.2.1.split.2.1.split.2.1.split.2.1.split.2.1.split.2.1.split.2.1.split.2.1
  have ce6_16 := OT.cell o6_16
  rw [kz_r]
  refine ⟨by simp -dsimp -implicitDefEqProofs only [go_sem, Nat.reduceBEq, Nat.reduceAdd, Nat.reduceLeDiff, Nat.reduceMul, Int.reduceLE, Int.reduceLT, Int.reduceBEq, ce6_3, ce6_4, ce6_5, ce6_6, ce6_8, ce6_9, ce6_12, ce6_13, ce6_14, ce6_15, ce6_16, row0, row1, hoo], ?_⟩
  repeat (first | rw [kz_o] | rw [kz_r0] | simp -dsimp -implicitDefEqProofs only [go_sem, Nat.reduceBEq, Nat.reduceAdd, Nat.reduceLeDiff, Nat.reduceMul, Int.reduceLE, Int.reduceLT, Int.reduceBEq, ce6_3, ce6_4, ce6_5, ce6_6, ce6_8, ce6_9, ce6_12, ce6_13, ce6_14, ce6_15, ce6_16, row0, row1, hoo])
  refine wz_intro (toIntS_new (by omega)) ?_
  rintro s7 g7 ⟨l7, b7, o7, bl7⟩
  try simp only [hn_push, hn_up] at bl7
  have nn7 := l7.n
  try simp only [hn_push, hn_up] at nn7
  have LL7 : g6.le g7 := H2.le.trans (by repeat (first | exact H2.le.refl _ | apply le_push | refine le_up ?_ (by assumption))) l7
  have ln7 := LL7.n
  replace o6_3 := o6_3.keep LL7 (bl6_3.wide (Nat.le_refl _) (by omega))
  replace o6_4 := o6_4.keep LL7 (bl6_4.wide (Nat.le_refl _) (by omega))
  replace o6_5 := o6_5.keep LL7 (bl6_5.wide (Nat.le_refl _) (by omega))
  replace o6_6 := o6_6.keep LL7 (bl6_6.wide (Nat.le_refl _) (by omega))
  replace o6_8 := o6_8.keep LL7 (bl6_8.wide (Nat.le_refl _) (by omega))
  replace o6_9 := o6_9.keep LL7 (bl6_9.wide (Nat.le_refl _) (by omega))
  replace o6_12 := o6_12.keep LL7 (bl6_12.wide (Nat.le_refl _) (by omega))
  replace o6_13 := o6_13.keep LL7 (bl6_13.wide (Nat.le_refl _) (by omega))
  replace o6_14 := o6_14.keep LL7 (bl6_14.wide (Nat.le_refl _) (by omega))
  replace o6_15 := o6_15.keep LL7 (bl6_15.wide (Nat.le_refl _) (by omega))
  replace o6_16 := o6_16.keep LL7 (bl6_16.wide (Nat.le_refl _) (by omega))
  replace row0 := (LL7.2 (hn h .mk) (by omega)).trans row0
  replace row1 := (LL7.2 (hn h .mk + 1) (by omega)).trans row1
  have ce7 := OT.cell o7
  rw [kz_r]
  refine ⟨by simp -dsimp -implicitDefEqProofs only [go_sem, Nat.reduceBEq, Nat.reduceAdd, Nat.reduceLeDiff, Nat.reduceMul, Int.reduceLE, Int.reduceLT, Int.reduceBEq, ce6_3, ce6_4, ce6_5, ce6_6, ce6_8, ce6_9, ce6_12, ce6_13, ce6_14, ce6_15, ce6_16, ce7, row0, row1, hoo], ?_⟩
  repeat (first | rw [kz_o] | rw [kz_r0] | simp -dsimp -implicitDefEqProofs only [go_sem, Nat.reduceBEq, Nat.reduceAdd, Nat.reduceLeDiff, Nat.reduceMul, Int.reduceLE, Int.reduceLT, Int.reduceBEq, ce6_3, ce6_4, ce6_5, ce6_6, ce6_8, ce6_9, ce6_12, ce6_13, ce6_14, ce6_15, ce6_16, ce7, row0, row1, hoo])
  refine wz_intro (toConfig_ok (by omega)) ?_
  rintro _ g8 ⟨l8, ys8, b8, rfl, o8, bl8⟩
  try simp only [hn_push, hn_up] at bl8
  have nn8 := l8.n
  try simp only [hn_push, hn_up] at nn8
  have LL8 : g7.le g8 := H2.le.trans (by repeat (first | exact H2.le.refl _ | apply le_push | refine le_up ?_ (by assumption))) l8
  have ln8 := LL8.n
  replace o6_3 := o6_3.keep LL8 (bl6_3.wide (Nat.le_refl _) (by omega))
  replace o6_4 := o6_4.keep LL8 (bl6_4.wide (Nat.le_refl _) (by omega))
  replace o6_5 := o6_5.keep LL8 (bl6_5.wide (Nat.le_refl _) (by omega))
  replace o6_6 := o6_6.keep LL8 (bl6_6.wide (Nat.le_refl _) (by omega))
  replace o6_8 := o6_8.keep LL8 (bl6_8.wide (Nat.le_refl _) (by omega))
  replace o6_9 := o6_9.keep LL8 (bl6_9.wide (Nat.le_refl _) (by omega))
  replace o6_12 := o6_12.keep LL8 (bl6_12.wide (Nat.le_refl _) (by omega))
  replace o6_13 := o6_13.keep LL8 (bl6_13.wide (Nat.le_refl _) (by omega))
  replace o6_14 := o6_14.keep LL8 (bl6_14.wide (Nat.le_refl _) (by omega))
  replace o6_15 := o6_15.keep LL8 (bl6_15.wide (Nat.le_refl _) (by omega))
  replace o6_16 := o6_16.keep LL8 (bl6_16.wide (Nat.le_refl _) (by omega))
  replace o7 := o7.keep LL8 (bl7.wide (Nat.le_refl _) (by omega))
  replace row0 := (LL8.2 (hn h .mk) (by omega)).trans row0
  replace row1 := (LL8.2 (hn h .mk + 1) (by omega)).trans row1
  obtain ⟨b8_3, s8_3, rfl, rfl, o8_3⟩ := invConfig o8
  clear o8
  have bl8_3 := bl8
  have ce8_3 := OT.cell o8_3
  repeat (first | rw [kz_o] | rw [kz_r0] | simp -dsimp -implicitDefEqProofs only [go_sem, Nat.reduceBEq, Nat.reduceAdd, Nat.reduceLeDiff, Nat.reduceMul, Int.reduceLE, Int.reduceLT, Int.reduceBEq, ce6_3, ce6_4, ce6_5, ce6_6, ce6_8, ce6_9, ce6_12, ce6_13, ce6_14, ce6_15, ce6_16, ce7, ce8_3, row0, row1, hoo])
  refine wz_intro (specAdmit_tree (outEngine (c := e) (o6_3.keep (by repeat (first | exact H2.le.refl _ | apply le_push | refine le_up ?_ (by assumption))) (bl6_3.wide (Nat.le_refl _) (by omega))) (o6_4.keep (by repeat (first | exact H2.le.refl _ | apply le_push | refine le_up ?_ (by assumption))) (bl6_4.wide (Nat.le_refl _) (by omega))) (o6_5.keep (by repeat (first | exact H2.le.refl _ | apply le_push | refine le_up ?_ (by assumption))) (bl6_5.wide (Nat.le_refl _) (by omega))) (o6_6.keep (by repeat (first | exact H2.le.refl _ | apply le_push | refine le_up ?_ (by assumption))) (bl6_6.wide (Nat.le_refl _) (by omega))) (o6_8.keep (by repeat (first | exact H2.le.refl _ | apply le_push | refine le_up ?_ (by assumption))) (bl6_8.wide (Nat.le_refl _) (by omega))) (o6_9.keep (by repeat (first | exact H2.le.refl _ | apply le_push | refine le_up ?_ (by assumption))) (bl6_9.wide (Nat.le_refl _) (by omega))) (o6_12.keep (by repeat (first | exact H2.le.refl _ | apply le_push | refine le_up ?_ (by assumption))) (bl6_12.wide (Nat.le_refl _) (by omega))) (o6_13.keep (by repeat (first | exact H2.le.refl _ | apply le_push | refine le_up ?_ (by assumption))) (bl6_13.wide (Nat.le_refl _) (by omega))) (o6_14.keep (by repeat (first | exact H2.le.refl _ | apply le_push | refine le_up ?_ (by assumption))) (bl6_14.wide (Nat.le_refl _) (by omega))) (o6_15.keep (by repeat (first | exact H2.le.refl _ | apply le_push | refine le_up ?_ (by assumption))) (bl6_15.wide (Nat.le_refl _) (by omega))) (o6_16.keep (by repeat (first | exact H2.le.refl _ | apply le_push | refine le_up ?_ (by assumption))) (bl6_16.wide (Nat.le_refl _) (by omega)))) (o7.keep (by repeat (first | exact H2.le.refl _ | apply le_push | refine le_up ?_ (by assumption))) (bl7.wide (Nat.le_refl _) (by omega))) (outConfig (c := c) (o8_3.keep (by repeat (first | exact H2.le.refl _ | apply le_push | refine le_up ?_ (by assumption))) (bl8_3.wide (Nat.le_refl _) (by omega)))) hm1 (by omega) hf2.1) ?_
  rintro _ g9 ⟨l9, rfl⟩
  have nn9 := l9.n
  try simp only [hn_push, hn_up] at nn9
  have LL9 : g8.le g9 := H2.le.trans (by repeat (first | exact H2.le.refl _ | apply le_push | refine le_up ?_ (by assumption))) l9
  have ln9 := LL9.n
  replace o6_3 := o6_3.keep LL9 (bl6_3.wide (Nat.le_refl _) (by omega))
  replace o6_4 := o6_4.keep LL9 (bl6_4.wide (Nat.le_refl _) (by omega))
  replace o6_5 := o6_5.keep LL9 (bl6_5.wide (Nat.le_refl _) (by omega))
  replace o6_6 := o6_6.keep LL9 (bl6_6.wide (Nat.le_refl _) (by omega))
  replace o6_8 := o6_8.keep LL9 (bl6_8.wide (Nat.le_refl _) (by omega))
  replace o6_9 := o6_9.keep LL9 (bl6_9.wide (Nat.le_refl _) (by omega))
  replace o6_12 := o6_12.keep LL9 (bl6_12.wide (Nat.le_refl _) (by omega))
  replace o6_13 := o6_13.keep LL9 (bl6_13.wide (Nat.le_refl _) (by omega))
  replace o6_14 := o6_14.keep LL9 (bl6_14.wide (Nat.le_refl _) (by omega))
  replace o6_15 := o6_15.keep LL9 (bl6_15.wide (Nat.le_refl _) (by omega))
  replace o6_16 := o6_16.keep LL9 (bl6_16.wide (Nat.le_refl _) (by omega))
  replace o7 := o7.keep LL9 (bl7.wide (Nat.le_refl _) (by omega))
  replace o8_3 := o8_3.keep LL9 (bl8_3.wide (Nat.le_refl _) (by omega))
  replace row0 := (LL9.2 (hn h .mk) (by omega)).trans row0
  replace row1 := (LL9.2 (hn h .mk + 1) (by omega)).trans row1
  repeat (first | rw [kz_o] | rw [kz_r0] | simp -dsimp -implicitDefEqProofs only [go_sem, Nat.reduceBEq, Nat.reduceAdd, Nat.reduceLeDiff, Nat.reduceMul, Int.reduceLE, Int.reduceLT, Int.reduceBEq, row0, row1, hoo])
  refine wz_intro (toEngine_ok (by omega)) ?_
  rintro _ g10 ⟨l10, ys10, b10, rfl, o10, bl10⟩
  try simp only [hn_push, hn_up] at bl10
  have nn10 := l10.n
  try simp only [hn_push, hn_up] at nn10
  have LL10 : g9.le g10 := H2.le.trans (by repeat (first | exact H2.le.refl _ | apply le_push | refine le_up ?_ (by assumption))) l10
  have ln10 := LL10.n
  replace row0 := (LL10.2 (hn h .mk) (by omega)).trans row0
  replace row1 := (LL10.2 (hn h .mk + 1) (by omega)).trans row1
  obtain ⟨b10_3, s10_3, b10_4, s10_4, b10_5, s10_5, b10_6, s10_6, b10_8, s10_8, b10_9, s10_9, b10_12, s10_12, b10_13, s10_13, b10_14, s10_14, b10_15, s10_15, b10_16, s10_16, rfl, rfl, o10_3, o10_4, o10_5, o10_6, o10_8, o10_9, o10_12, o10_13, o10_14, o10_15, o10_16⟩ := invEngine o10
  clear o10
  have bl10_3 := bl10.split.1
  have ce10_3 := OT.cell o10_3
  have bl10_4 := bl10.split.2.1.split.1
  have ce10_4 := OT.cell o10_4
  have bl10_5 := bl10.split.2.1.split.2.1.split.1
  have ce10_5 := OT.cell o10_5
  have bl10_6 := bl10.split.2.1.split.2.1.split.2.1.split.1
  have ce10_6 := OT.cell o10_6
  have bl10_8 := bl10.split.2.1.split.2.1.split.2.1.split.2.1.split.1
  have ce10_8 := OT.cell o10_8
  have bl10_9 := bl10.split.2.1.split.2.1.split.2.1.split.2.1.split.2.1.split.1
  have ce10_9 := OT.cell o10_9
  have bl10_12 := bl10.split.2.1.split.2.1.split.2.1.split.2.1.split.2.1.split.2.1.split.1
  have ce10_12 := OT.cell o10_12
  have bl10_13 := bl10.split.2.1.split.2.1.split.2.1.split.2.1.split.2.1.split.2.1.split.2.1.split.1
  have ce10_13 := OT.cell o10_13
  have bl10_14 := bl10.split.2.1.split.2.1.split.2.1.split.2.1.split.2.1.split.2.1.split.2.1.split.2.1.split.1
  have ce10_14 := OT.cell o10_14
  have bl10_15 := bl10.split.2.1.split.2.1.split.2.1.split.2.1.split.2.1.split.2.1.split.2.1.split.2.1.split.2.1.split.1
  have ce10_15 := OT.cell o10_15
  have bl10_16 := bl10.split.2.1.split.2.1.split.2.1.split.2.1.split.2.1.split.2.1.split.2.1.split.2.1.split.2.1.split.2.1
  have ce10_16 := OT.cell o10_16
  have ne11 : ((hn h .mk) == (hn g10 .mk)) = false := by simp; omega
  have nf11 : ((hn g10 .mk) == (hn h .mk)) = false := by simp; omega
  have ne12 : ((hn h .mk + 1) == (hn g10 .mk)) = false := by simp; omega
  have nf12 : ((hn g10 .mk) == (hn h .mk + 1)) = false := by simp; omega
  repeat (first | rw [kz_o] | rw [kz_r0] | simp -dsimp -implicitDefEqProofs only [go_sem, Nat.reduceBEq, Nat.reduceAdd, Nat.reduceLeDiff, Nat.reduceMul, Int.reduceLE, Int.reduceLT, Int.reduceBEq, ce10_3, ce10_4, ce10_5, ce10_6, ce10_8, ce10_9, ce10_12, ce10_13, ce10_14, ce10_15, ce10_16, row0, row1, ne11, nf11, ne12, nf12, hoo])
  refine wz_intro (toIntS_new (by omega)) ?_
  rintro s13 g13 ⟨l13, b13, o13, bl13⟩
  try simp only [hn_push, hn_up] at bl13
  have nn13 := l13.n
  try simp only [hn_push, hn_up] at nn13
  have LL13 : g10.le g13 := H2.le.trans (by repeat (first | exact H2.le.refl _ | apply le_push | refine le_up ?_ (by assumption))) l13
  have ln13 := LL13.n
  replace o10_3 := o10_3.keep LL13 (bl10_3.wide (Nat.le_refl _) (by omega))
  replace o10_4 := o10_4.keep LL13 (bl10_4.wide (Nat.le_refl _) (by omega))
  replace o10_5 := o10_5.keep LL13 (bl10_5.wide (Nat.le_refl _) (by omega))
  replace o10_6 := o10_6.keep LL13 (bl10_6.wide (Nat.le_refl _) (by omega))
  replace o10_8 := o10_8.keep LL13 (bl10_8.wide (Nat.le_refl _) (by omega))
  replace o10_9 := o10_9.keep LL13 (bl10_9.wide (Nat.le_refl _) (by omega))
  replace o10_12 := o10_12.keep LL13 (bl10_12.wide (Nat.le_refl _) (by omega))
  replace o10_13 := o10_13.keep LL13 (bl10_13.wide (Nat.le_refl _) (by omega))
  replace o10_14 := o10_14.keep LL13 (bl10_14.wide (Nat.le_refl _) (by omega))
  replace o10_15 := o10_15.keep LL13 (bl10_15.wide (Nat.le_refl _) (by omega))
  replace o10_16 := o10_16.keep LL13 (bl10_16.wide (Nat.le_refl _) (by omega))
  replace row0 := (LL13.2 (hn h .mk) (by omega)).trans row0
  replace row1 := (LL13.2 (hn h .mk + 1) (by omega)).trans row1
  have row2 : hg g13 (hn g10 .mk) .mk = some ⟨17, [.raw (.int .i64 e.model.dim), .raw (.int .i64 e.model.heads), .raw (.int .i64 e.model.context), s10_3, s10_4, s10_5, s10_6, .raw (.int .i64 e.model.head.width), s10_8, s10_9, .raw (.int .i64 e.model.head.mul), .raw (.int .i64 e.model.head.shift), s10_12, s10_13, s10_14, s10_15, s10_16]⟩ := (l13.2 (hn g10 .mk) (by simp only [hn_push, hn_up]; omega)).trans (by simp -dsimp -implicitDefEqProofs only [go_sem, Nat.reduceBEq, Nat.reduceAdd, Nat.reduceLeDiff, Nat.reduceMul, Int.reduceLE, Int.reduceLT, Int.reduceBEq, ne11, nf11, ne12, nf12, ce10_3, ce10_4, ce10_5, ce10_6, ce10_8, ce10_9, ce10_12, ce10_13, ce10_14, ce10_15, ce10_16, row0, row1, hoo])
  have ce13 := OT.cell o13
  repeat (first | rw [kz_o] | rw [kz_r0] | simp -dsimp -implicitDefEqProofs only [go_sem, Nat.reduceBEq, Nat.reduceAdd, Nat.reduceLeDiff, Nat.reduceMul, Int.reduceLE, Int.reduceLT, Int.reduceBEq, ne11, nf11, ne12, nf12, ce10_3, ce10_4, ce10_5, ce10_6, ce10_8, ce10_9, ce10_12, ce10_13, ce10_14, ce10_15, ce10_16, ce13, row0, row1, row2, hoo])
  refine wz_intro (toConfig_ok (by omega)) ?_
  rintro _ g14 ⟨l14, ys14, b14, rfl, o14, bl14⟩
  try simp only [hn_push, hn_up] at bl14
  have nn14 := l14.n
  try simp only [hn_push, hn_up] at nn14
  have LL14 : g13.le g14 := H2.le.trans (by repeat (first | exact H2.le.refl _ | apply le_push | refine le_up ?_ (by assumption))) l14
  have ln14 := LL14.n
  replace o10_3 := o10_3.keep LL14 (bl10_3.wide (Nat.le_refl _) (by omega))
  replace o10_4 := o10_4.keep LL14 (bl10_4.wide (Nat.le_refl _) (by omega))
  replace o10_5 := o10_5.keep LL14 (bl10_5.wide (Nat.le_refl _) (by omega))
  replace o10_6 := o10_6.keep LL14 (bl10_6.wide (Nat.le_refl _) (by omega))
  replace o10_8 := o10_8.keep LL14 (bl10_8.wide (Nat.le_refl _) (by omega))
  replace o10_9 := o10_9.keep LL14 (bl10_9.wide (Nat.le_refl _) (by omega))
  replace o10_12 := o10_12.keep LL14 (bl10_12.wide (Nat.le_refl _) (by omega))
  replace o10_13 := o10_13.keep LL14 (bl10_13.wide (Nat.le_refl _) (by omega))
  replace o10_14 := o10_14.keep LL14 (bl10_14.wide (Nat.le_refl _) (by omega))
  replace o10_15 := o10_15.keep LL14 (bl10_15.wide (Nat.le_refl _) (by omega))
  replace o10_16 := o10_16.keep LL14 (bl10_16.wide (Nat.le_refl _) (by omega))
  replace o13 := o13.keep LL14 (bl13.wide (Nat.le_refl _) (by omega))
  replace row0 := (LL14.2 (hn h .mk) (by omega)).trans row0
  replace row1 := (LL14.2 (hn h .mk + 1) (by omega)).trans row1
  replace row2 := (LL14.2 (hn g10 .mk) (by omega)).trans row2
  obtain ⟨b14_3, s14_3, rfl, rfl, o14_3⟩ := invConfig o14
  clear o14
  have bl14_3 := bl14
  have ce14_3 := OT.cell o14_3
  have ne15 : ((hn h .mk) == (hn g14 .mk)) = false := by simp; omega
  have nf15 : ((hn g14 .mk) == (hn h .mk)) = false := by simp; omega
  have ne16 : ((hn h .mk + 1) == (hn g14 .mk)) = false := by simp; omega
  have nf16 : ((hn g14 .mk) == (hn h .mk + 1)) = false := by simp; omega
  have ne17 : ((hn g10 .mk) == (hn g14 .mk)) = false := by simp; omega
  have nf17 : ((hn g14 .mk) == (hn g10 .mk)) = false := by simp; omega
  repeat (first | rw [kz_o] | rw [kz_r0] | simp -dsimp -implicitDefEqProofs only [go_sem, Nat.reduceBEq, Nat.reduceAdd, Nat.reduceLeDiff, Nat.reduceMul, Int.reduceLE, Int.reduceLT, Int.reduceBEq, ne11, nf11, ne12, nf12, ce10_3, ce10_4, ce10_5, ce10_6, ce10_8, ce10_9, ce10_12, ce10_13, ce10_14, ce10_15, ce10_16, ce13, ce14_3, row0, row1, row2, ne15, nf15, ne16, nf16, ne17, nf17, hoo])
  refine wz_intro (implAdmit_tree (outEngine (c := e) (o10_3.keep (by repeat (first | exact H2.le.refl _ | apply le_push | refine le_up ?_ (by assumption))) (bl10_3.wide (Nat.le_refl _) (by omega))) (o10_4.keep (by repeat (first | exact H2.le.refl _ | apply le_push | refine le_up ?_ (by assumption))) (bl10_4.wide (Nat.le_refl _) (by omega))) (o10_5.keep (by repeat (first | exact H2.le.refl _ | apply le_push | refine le_up ?_ (by assumption))) (bl10_5.wide (Nat.le_refl _) (by omega))) (o10_6.keep (by repeat (first | exact H2.le.refl _ | apply le_push | refine le_up ?_ (by assumption))) (bl10_6.wide (Nat.le_refl _) (by omega))) (o10_8.keep (by repeat (first | exact H2.le.refl _ | apply le_push | refine le_up ?_ (by assumption))) (bl10_8.wide (Nat.le_refl _) (by omega))) (o10_9.keep (by repeat (first | exact H2.le.refl _ | apply le_push | refine le_up ?_ (by assumption))) (bl10_9.wide (Nat.le_refl _) (by omega))) (o10_12.keep (by repeat (first | exact H2.le.refl _ | apply le_push | refine le_up ?_ (by assumption))) (bl10_12.wide (Nat.le_refl _) (by omega))) (o10_13.keep (by repeat (first | exact H2.le.refl _ | apply le_push | refine le_up ?_ (by assumption))) (bl10_13.wide (Nat.le_refl _) (by omega))) (o10_14.keep (by repeat (first | exact H2.le.refl _ | apply le_push | refine le_up ?_ (by assumption))) (bl10_14.wide (Nat.le_refl _) (by omega))) (o10_15.keep (by repeat (first | exact H2.le.refl _ | apply le_push | refine le_up ?_ (by assumption))) (bl10_15.wide (Nat.le_refl _) (by omega))) (o10_16.keep (by repeat (first | exact H2.le.refl _ | apply le_push | refine le_up ?_ (by assumption))) (bl10_16.wide (Nat.le_refl _) (by omega)))) (o13.keep (by repeat (first | exact H2.le.refl _ | apply le_push | refine le_up ?_ (by assumption))) (bl13.wide (Nat.le_refl _) (by omega))) (outConfig (c := c) (o14_3.keep (by repeat (first | exact H2.le.refl _ | apply le_push | refine le_up ?_ (by assumption))) (bl14_3.wide (Nat.le_refl _) (by omega)))) hm1 (by omega) hf2.1) ?_
  rintro _ g18 ⟨l18, rfl⟩
  have nn18 := l18.n
  try simp only [hn_push, hn_up] at nn18
  have LL18 : g14.le g18 := H2.le.trans (by repeat (first | exact H2.le.refl _ | apply le_push | refine le_up ?_ (by assumption))) l18
  have ln18 := LL18.n
  replace o10_3 := o10_3.keep LL18 (bl10_3.wide (Nat.le_refl _) (by omega))
  replace o10_4 := o10_4.keep LL18 (bl10_4.wide (Nat.le_refl _) (by omega))
  replace o10_5 := o10_5.keep LL18 (bl10_5.wide (Nat.le_refl _) (by omega))
  replace o10_6 := o10_6.keep LL18 (bl10_6.wide (Nat.le_refl _) (by omega))
  replace o10_8 := o10_8.keep LL18 (bl10_8.wide (Nat.le_refl _) (by omega))
  replace o10_9 := o10_9.keep LL18 (bl10_9.wide (Nat.le_refl _) (by omega))
  replace o10_12 := o10_12.keep LL18 (bl10_12.wide (Nat.le_refl _) (by omega))
  replace o10_13 := o10_13.keep LL18 (bl10_13.wide (Nat.le_refl _) (by omega))
  replace o10_14 := o10_14.keep LL18 (bl10_14.wide (Nat.le_refl _) (by omega))
  replace o10_15 := o10_15.keep LL18 (bl10_15.wide (Nat.le_refl _) (by omega))
  replace o10_16 := o10_16.keep LL18 (bl10_16.wide (Nat.le_refl _) (by omega))
  replace o13 := o13.keep LL18 (bl13.wide (Nat.le_refl _) (by omega))
  replace o14_3 := o14_3.keep LL18 (bl14_3.wide (Nat.le_refl _) (by omega))
  replace row0 := (LL18.2 (hn h .mk) (by omega)).trans row0
  replace row1 := (LL18.2 (hn h .mk + 1) (by omega)).trans row1
  replace row2 := (LL18.2 (hn g10 .mk) (by omega)).trans row2
  have row3 : hg g18 (hn g14 .mk) .mk = some ⟨4, [.raw (.int .i64 c.top), .raw (.int .i64 c.seed), .raw (.int .i64 c.new), s14_3]⟩ := (l18.2 (hn g14 .mk) (by simp only [hn_push, hn_up]; omega)).trans (by simp -dsimp -implicitDefEqProofs only [go_sem, Nat.reduceBEq, Nat.reduceAdd, Nat.reduceLeDiff, Nat.reduceMul, Int.reduceLE, Int.reduceLT, Int.reduceBEq, ne11, nf11, ne12, nf12, ne15, nf15, ne16, nf16, ne17, nf17, ce10_3, ce10_4, ce10_5, ce10_6, ce10_8, ce10_9, ce10_12, ce10_13, ce10_14, ce10_15, ce10_16, ce13, ce14_3, row0, row1, row2, hoo])
  repeat (first | rw [kz_o] | rw [kz_r0] | simp -dsimp -implicitDefEqProofs only [go_sem, Nat.reduceBEq, Nat.reduceAdd, Nat.reduceLeDiff, Nat.reduceMul, Int.reduceLE, Int.reduceLT, Int.reduceBEq, ne11, nf11, ne12, nf12, ne15, nf15, ne16, nf16, ne17, nf17, ce10_3, ce10_4, ce10_5, ce10_6, ce10_8, ce10_9, ce10_12, ce10_13, ce10_14, ce10_15, ce10_16, ce13, ce14_3, row0, row1, row2, row3, hoo])
  refine dq_intro [(0, []), (1, []), (2, [0]), (3, []), (4, [])] (by kernel_rfl) ?_
  repeat (first | rw [kz_o] | rw [kz_r0] | simp -dsimp -implicitDefEqProofs only [go_sem, Nat.reduceBEq, Nat.reduceAdd, Nat.reduceLeDiff, Nat.reduceMul, Int.reduceLE, Int.reduceLT, Int.reduceBEq, ne11, nf11, ne12, nf12, ne15, nf15, ne16, nf16, ne17, nf17, ce10_3, ce10_4, ce10_5, ce10_6, ce10_8, ce10_9, ce10_12, ce10_13, ce10_14, ce10_15, ce10_16, ce13, ce14_3, row0, row1, row2, row3, hoo])
  refine wz_intro (toEngine_ok (by omega)) ?_
  rintro _ g19 ⟨l19, ys19, b19, rfl, o19, bl19⟩
  try simp only [hn_push, hn_up] at bl19
  have nn19 := l19.n
  try simp only [hn_push, hn_up] at nn19
  have LL19 : g18.le g19 := H2.le.trans (by repeat (first | exact H2.le.refl _ | apply le_push | refine le_up ?_ (by assumption))) l19
  have ln19 := LL19.n
  replace o10_3 := o10_3.keep LL19 (bl10_3.wide (Nat.le_refl _) (by omega))
  replace o10_4 := o10_4.keep LL19 (bl10_4.wide (Nat.le_refl _) (by omega))
  replace o10_5 := o10_5.keep LL19 (bl10_5.wide (Nat.le_refl _) (by omega))
  replace o10_6 := o10_6.keep LL19 (bl10_6.wide (Nat.le_refl _) (by omega))
  replace o10_8 := o10_8.keep LL19 (bl10_8.wide (Nat.le_refl _) (by omega))
  replace o10_9 := o10_9.keep LL19 (bl10_9.wide (Nat.le_refl _) (by omega))
  replace o10_12 := o10_12.keep LL19 (bl10_12.wide (Nat.le_refl _) (by omega))
  replace o10_13 := o10_13.keep LL19 (bl10_13.wide (Nat.le_refl _) (by omega))
  replace o10_14 := o10_14.keep LL19 (bl10_14.wide (Nat.le_refl _) (by omega))
  replace o10_15 := o10_15.keep LL19 (bl10_15.wide (Nat.le_refl _) (by omega))
  replace o10_16 := o10_16.keep LL19 (bl10_16.wide (Nat.le_refl _) (by omega))
  replace o13 := o13.keep LL19 (bl13.wide (Nat.le_refl _) (by omega))
  replace o14_3 := o14_3.keep LL19 (bl14_3.wide (Nat.le_refl _) (by omega))
  replace row0 := (LL19.2 (hn h .mk) (by omega)).trans row0
  replace row1 := (LL19.2 (hn h .mk + 1) (by omega)).trans row1
  replace row2 := (LL19.2 (hn g10 .mk) (by omega)).trans row2
  replace row3 := (LL19.2 (hn g14 .mk) (by omega)).trans row3
  obtain ⟨b19_3, s19_3, b19_4, s19_4, b19_5, s19_5, b19_6, s19_6, b19_8, s19_8, b19_9, s19_9, b19_12, s19_12, b19_13, s19_13, b19_14, s19_14, b19_15, s19_15, b19_16, s19_16, rfl, rfl, o19_3, o19_4, o19_5, o19_6, o19_8, o19_9, o19_12, o19_13, o19_14, o19_15, o19_16⟩ := invEngine o19
  clear o19
  have bl19_3 := bl19.split.1
  have ce19_3 := OT.cell o19_3
  have bl19_4 := bl19.split.2.1.split.1
  have ce19_4 := OT.cell o19_4
  have bl19_5 := bl19.split.2.1.split.2.1.split.1
  have ce19_5 := OT.cell o19_5
  have bl19_6 := bl19.split.2.1.split.2.1.split.2.1.split.1
  have ce19_6 := OT.cell o19_6
  have bl19_8 := bl19.split.2.1.split.2.1.split.2.1.split.2.1.split.1
  have ce19_8 := OT.cell o19_8
  have bl19_9 := bl19.split.2.1.split.2.1.split.2.1.split.2.1.split.2.1.split.1
  have ce19_9 := OT.cell o19_9
  have bl19_12 := bl19.split.2.1.split.2.1.split.2.1.split.2.1.split.2.1.split.2.1.split.1
  have ce19_12 := OT.cell o19_12
  have bl19_13 := bl19.split.2.1.split.2.1.split.2.1.split.2.1.split.2.1.split.2.1.split.2.1.split.1
  have ce19_13 := OT.cell o19_13
  have bl19_14 := bl19.split.2.1.split.2.1.split.2.1.split.2.1.split.2.1.split.2.1.split.2.1.split.2.1.split.1
  have ce19_14 := OT.cell o19_14
  have bl19_15 := bl19.split.2.1.split.2.1.split.2.1.split.2.1.split.2.1.split.2.1.split.2.1.split.2.1.split.2.1.split.1
  have ce19_15 := OT.cell o19_15
  have bl19_16 := bl19.split.2.1.split.2.1.split.2.1.split.2.1.split.2.1.split.2.1.split.2.1.split.2.1.split.2.1.split.2.1
  have ce19_16 := OT.cell o19_16
  rw [kz_r]
  refine ⟨by simp -dsimp -implicitDefEqProofs only [go_sem, Nat.reduceBEq, Nat.reduceAdd, Nat.reduceLeDiff, Nat.reduceMul, Int.reduceLE, Int.reduceLT, Int.reduceBEq, ne11, nf11, ne12, nf12, ne15, nf15, ne16, nf16, ne17, nf17, ce10_3, ce10_4, ce10_5, ce10_6, ce10_8, ce10_9, ce10_12, ce10_13, ce10_14, ce10_15, ce10_16, ce13, ce14_3, ce19_3, ce19_4, ce19_5, ce19_6, ce19_8, ce19_9, ce19_12, ce19_13, ce19_14, ce19_15, ce19_16, row0, row1, row2, row3, hoo], ?_⟩
  repeat (first | rw [kz_o] | rw [kz_r0] | simp -dsimp -implicitDefEqProofs only [go_sem, Nat.reduceBEq, Nat.reduceAdd, Nat.reduceLeDiff, Nat.reduceMul, Int.reduceLE, Int.reduceLT, Int.reduceBEq, ne11, nf11, ne12, nf12, ne15, nf15, ne16, nf16, ne17, nf17, ce10_3, ce10_4, ce10_5, ce10_6, ce10_8, ce10_9, ce10_12, ce10_13, ce10_14, ce10_15, ce10_16, ce13, ce14_3, ce19_3, ce19_4, ce19_5, ce19_6, ce19_8, ce19_9, ce19_12, ce19_13, ce19_14, ce19_15, ce19_16, row0, row1, row2, row3, hoo])
  refine pw_intro (eqEngine_tree (outEngine (c := e) (o10_3.keep (by repeat (first | exact H2.le.refl _ | apply le_push | refine le_up ?_ (by assumption))) (bl10_3.wide (Nat.le_refl _) (by omega))) (o10_4.keep (by repeat (first | exact H2.le.refl _ | apply le_push | refine le_up ?_ (by assumption))) (bl10_4.wide (Nat.le_refl _) (by omega))) (o10_5.keep (by repeat (first | exact H2.le.refl _ | apply le_push | refine le_up ?_ (by assumption))) (bl10_5.wide (Nat.le_refl _) (by omega))) (o10_6.keep (by repeat (first | exact H2.le.refl _ | apply le_push | refine le_up ?_ (by assumption))) (bl10_6.wide (Nat.le_refl _) (by omega))) (o10_8.keep (by repeat (first | exact H2.le.refl _ | apply le_push | refine le_up ?_ (by assumption))) (bl10_8.wide (Nat.le_refl _) (by omega))) (o10_9.keep (by repeat (first | exact H2.le.refl _ | apply le_push | refine le_up ?_ (by assumption))) (bl10_9.wide (Nat.le_refl _) (by omega))) (o10_12.keep (by repeat (first | exact H2.le.refl _ | apply le_push | refine le_up ?_ (by assumption))) (bl10_12.wide (Nat.le_refl _) (by omega))) (o10_13.keep (by repeat (first | exact H2.le.refl _ | apply le_push | refine le_up ?_ (by assumption))) (bl10_13.wide (Nat.le_refl _) (by omega))) (o10_14.keep (by repeat (first | exact H2.le.refl _ | apply le_push | refine le_up ?_ (by assumption))) (bl10_14.wide (Nat.le_refl _) (by omega))) (o10_15.keep (by repeat (first | exact H2.le.refl _ | apply le_push | refine le_up ?_ (by assumption))) (bl10_15.wide (Nat.le_refl _) (by omega))) (o10_16.keep (by repeat (first | exact H2.le.refl _ | apply le_push | refine le_up ?_ (by assumption))) (bl10_16.wide (Nat.le_refl _) (by omega)))) (outEngine (c := e) (o19_3.keep (by repeat (first | exact H2.le.refl _ | apply le_push | refine le_up ?_ (by assumption))) (bl19_3.wide (Nat.le_refl _) (by omega))) (o19_4.keep (by repeat (first | exact H2.le.refl _ | apply le_push | refine le_up ?_ (by assumption))) (bl19_4.wide (Nat.le_refl _) (by omega))) (o19_5.keep (by repeat (first | exact H2.le.refl _ | apply le_push | refine le_up ?_ (by assumption))) (bl19_5.wide (Nat.le_refl _) (by omega))) (o19_6.keep (by repeat (first | exact H2.le.refl _ | apply le_push | refine le_up ?_ (by assumption))) (bl19_6.wide (Nat.le_refl _) (by omega))) (o19_8.keep (by repeat (first | exact H2.le.refl _ | apply le_push | refine le_up ?_ (by assumption))) (bl19_8.wide (Nat.le_refl _) (by omega))) (o19_9.keep (by repeat (first | exact H2.le.refl _ | apply le_push | refine le_up ?_ (by assumption))) (bl19_9.wide (Nat.le_refl _) (by omega))) (o19_12.keep (by repeat (first | exact H2.le.refl _ | apply le_push | refine le_up ?_ (by assumption))) (bl19_12.wide (Nat.le_refl _) (by omega))) (o19_13.keep (by repeat (first | exact H2.le.refl _ | apply le_push | refine le_up ?_ (by assumption))) (bl19_13.wide (Nat.le_refl _) (by omega))) (o19_14.keep (by repeat (first | exact H2.le.refl _ | apply le_push | refine le_up ?_ (by assumption))) (bl19_14.wide (Nat.le_refl _) (by omega))) (o19_15.keep (by repeat (first | exact H2.le.refl _ | apply le_push | refine le_up ?_ (by assumption))) (bl19_15.wide (Nat.le_refl _) (by omega))) (o19_16.keep (by repeat (first | exact H2.le.refl _ | apply le_push | refine le_up ?_ (by assumption))) (bl19_16.wide (Nat.le_refl _) (by omega)))) hf0) ?_
  rintro _ n20 hn20 rfl
  have hm20 := hn20
  try simp only [hn_push, hn_up] at hm20
  repeat (first | rw [kz_o] | rw [kz_r0] | simp -dsimp -implicitDefEqProofs only [go_sem, Nat.reduceBEq, Nat.reduceAdd, Nat.reduceLeDiff, Nat.reduceMul, Int.reduceLE, Int.reduceLT, Int.reduceBEq, ne11, nf11, ne12, nf12, ne15, nf15, ne16, nf16, ne17, nf17, ce10_3, ce10_4, ce10_5, ce10_6, ce10_8, ce10_9, ce10_12, ce10_13, ce10_14, ce10_15, ce10_16, ce13, ce14_3, row0, row1, row2, row3, hoo])
  refine wz_intro (toIntS_new (by omega)) ?_
  rintro s21 g21 ⟨l21, b21, o21, bl21⟩
  try simp only [hn_push, hn_up] at bl21
  have nn21 := l21.n
  try simp only [hn_push, hn_up] at nn21
  have LL21 : g19.le g21 := H2.le.trans (by repeat (first | exact H2.le.refl _ | apply le_push | refine le_up ?_ (by assumption))) l21
  have ln21 := LL21.n
  replace o10_3 := o10_3.keep LL21 (bl10_3.wide (Nat.le_refl _) (by omega))
  replace o10_4 := o10_4.keep LL21 (bl10_4.wide (Nat.le_refl _) (by omega))
  replace o10_5 := o10_5.keep LL21 (bl10_5.wide (Nat.le_refl _) (by omega))
  replace o10_6 := o10_6.keep LL21 (bl10_6.wide (Nat.le_refl _) (by omega))
  replace o10_8 := o10_8.keep LL21 (bl10_8.wide (Nat.le_refl _) (by omega))
  replace o10_9 := o10_9.keep LL21 (bl10_9.wide (Nat.le_refl _) (by omega))
  replace o10_12 := o10_12.keep LL21 (bl10_12.wide (Nat.le_refl _) (by omega))
  replace o10_13 := o10_13.keep LL21 (bl10_13.wide (Nat.le_refl _) (by omega))
  replace o10_14 := o10_14.keep LL21 (bl10_14.wide (Nat.le_refl _) (by omega))
  replace o10_15 := o10_15.keep LL21 (bl10_15.wide (Nat.le_refl _) (by omega))
  replace o10_16 := o10_16.keep LL21 (bl10_16.wide (Nat.le_refl _) (by omega))
  replace o13 := o13.keep LL21 (bl13.wide (Nat.le_refl _) (by omega))
  replace o14_3 := o14_3.keep LL21 (bl14_3.wide (Nat.le_refl _) (by omega))
  replace row0 := (LL21.2 (hn h .mk) (by omega)).trans row0
  replace row1 := (LL21.2 (hn h .mk + 1) (by omega)).trans row1
  replace row2 := (LL21.2 (hn g10 .mk) (by omega)).trans row2
  replace row3 := (LL21.2 (hn g14 .mk) (by omega)).trans row3
  have ce21 := OT.cell o21
  repeat (first | rw [kz_o] | rw [kz_r0] | simp -dsimp -implicitDefEqProofs only [go_sem, Nat.reduceBEq, Nat.reduceAdd, Nat.reduceLeDiff, Nat.reduceMul, Int.reduceLE, Int.reduceLT, Int.reduceBEq, ne11, nf11, ne12, nf12, ne15, nf15, ne16, nf16, ne17, nf17, ce10_3, ce10_4, ce10_5, ce10_6, ce10_8, ce10_9, ce10_12, ce10_13, ce10_14, ce10_15, ce10_16, ce13, ce14_3, ce21, row0, row1, row2, row3, hoo])
  refine pw_intro (eqIntS_tree (o13.keep (by repeat (first | exact H2.le.refl _ | apply le_push | refine le_up ?_ (by assumption))) (bl13.wide (Nat.le_refl _) (by omega))) (o21.keep (by repeat (first | exact H2.le.refl _ | apply le_push | refine le_up ?_ (by assumption))) (bl21.wide (Nat.le_refl _) (by omega))) (by omega)) ?_
  rintro _ n22 hn22 rfl
  have hm22 := hn22
  try simp only [hn_push, hn_up] at hm22
  repeat (first | rw [kz_o] | rw [kz_r0] | simp -dsimp -implicitDefEqProofs only [go_sem, Nat.reduceBEq, Nat.reduceAdd, Nat.reduceLeDiff, Nat.reduceMul, Int.reduceLE, Int.reduceLT, Int.reduceBEq, ne11, nf11, ne12, nf12, ne15, nf15, ne16, nf16, ne17, nf17, ce10_3, ce10_4, ce10_5, ce10_6, ce10_8, ce10_9, ce10_12, ce10_13, ce10_14, ce10_15, ce10_16, ce13, ce14_3, row0, row1, row2, row3, hoo])
  refine dq_intro [(0, []), (1, []), (2, [0]), (3, []), (4, [])] (by kernel_rfl) ?_
  repeat (first | rw [kz_o] | rw [kz_r0] | simp -dsimp -implicitDefEqProofs only [go_sem, Nat.reduceBEq, Nat.reduceAdd, Nat.reduceLeDiff, Nat.reduceMul, Int.reduceLE, Int.reduceLT, Int.reduceBEq, ne11, nf11, ne12, nf12, ne15, nf15, ne16, nf16, ne17, nf17, ce10_3, ce10_4, ce10_5, ce10_6, ce10_8, ce10_9, ce10_12, ce10_13, ce10_14, ce10_15, ce10_16, ce13, ce14_3, row0, row1, row2, row3, hoo])
  refine wz_intro (toConfig_ok (by omega)) ?_
  rintro _ g23 ⟨l23, ys23, b23, rfl, o23, bl23⟩
  try simp only [hn_push, hn_up] at bl23
  have nn23 := l23.n
  try simp only [hn_push, hn_up] at nn23
  have LL23 : g21.le g23 := H2.le.trans (by repeat (first | exact H2.le.refl _ | apply le_push | refine le_up ?_ (by assumption))) l23
  have ln23 := LL23.n
  replace o10_3 := o10_3.keep LL23 (bl10_3.wide (Nat.le_refl _) (by omega))
  replace o10_4 := o10_4.keep LL23 (bl10_4.wide (Nat.le_refl _) (by omega))
  replace o10_5 := o10_5.keep LL23 (bl10_5.wide (Nat.le_refl _) (by omega))
  replace o10_6 := o10_6.keep LL23 (bl10_6.wide (Nat.le_refl _) (by omega))
  replace o10_8 := o10_8.keep LL23 (bl10_8.wide (Nat.le_refl _) (by omega))
  replace o10_9 := o10_9.keep LL23 (bl10_9.wide (Nat.le_refl _) (by omega))
  replace o10_12 := o10_12.keep LL23 (bl10_12.wide (Nat.le_refl _) (by omega))
  replace o10_13 := o10_13.keep LL23 (bl10_13.wide (Nat.le_refl _) (by omega))
  replace o10_14 := o10_14.keep LL23 (bl10_14.wide (Nat.le_refl _) (by omega))
  replace o10_15 := o10_15.keep LL23 (bl10_15.wide (Nat.le_refl _) (by omega))
  replace o10_16 := o10_16.keep LL23 (bl10_16.wide (Nat.le_refl _) (by omega))
  replace o13 := o13.keep LL23 (bl13.wide (Nat.le_refl _) (by omega))
  replace o14_3 := o14_3.keep LL23 (bl14_3.wide (Nat.le_refl _) (by omega))
  replace row0 := (LL23.2 (hn h .mk) (by omega)).trans row0
  replace row1 := (LL23.2 (hn h .mk + 1) (by omega)).trans row1
  replace row2 := (LL23.2 (hn g10 .mk) (by omega)).trans row2
  replace row3 := (LL23.2 (hn g14 .mk) (by omega)).trans row3
  obtain ⟨b23_3, s23_3, rfl, rfl, o23_3⟩ := invConfig o23
  clear o23
  have bl23_3 := bl23
  have ce23_3 := OT.cell o23_3
  rw [kz_r]
  refine ⟨by simp -dsimp -implicitDefEqProofs only [go_sem, Nat.reduceBEq, Nat.reduceAdd, Nat.reduceLeDiff, Nat.reduceMul, Int.reduceLE, Int.reduceLT, Int.reduceBEq, ne11, nf11, ne12, nf12, ne15, nf15, ne16, nf16, ne17, nf17, ce10_3, ce10_4, ce10_5, ce10_6, ce10_8, ce10_9, ce10_12, ce10_13, ce10_14, ce10_15, ce10_16, ce13, ce14_3, ce23_3, row0, row1, row2, row3, hoo], ?_⟩
  repeat (first | rw [kz_o] | rw [kz_r0] | simp -dsimp -implicitDefEqProofs only [go_sem, Nat.reduceBEq, Nat.reduceAdd, Nat.reduceLeDiff, Nat.reduceMul, Int.reduceLE, Int.reduceLT, Int.reduceBEq, ne11, nf11, ne12, nf12, ne15, nf15, ne16, nf16, ne17, nf17, ce10_3, ce10_4, ce10_5, ce10_6, ce10_8, ce10_9, ce10_12, ce10_13, ce10_14, ce10_15, ce10_16, ce13, ce14_3, ce23_3, row0, row1, row2, row3, hoo])
  refine pw_intro (eqConfig_tree (outConfig (c := c) (o14_3.keep (by repeat (first | exact H2.le.refl _ | apply le_push | refine le_up ?_ (by assumption))) (bl14_3.wide (Nat.le_refl _) (by omega)))) (outConfig (c := c) (o23_3.keep (by repeat (first | exact H2.le.refl _ | apply le_push | refine le_up ?_ (by assumption))) (bl23_3.wide (Nat.le_refl _) (by omega)))) hf2) ?_
  rintro _ n24 hn24 rfl
  have hm24 := hn24
  try simp only [hn_push, hn_up] at hm24
  repeat (first | rw [kz_o] | rw [kz_r0] | simp -dsimp -implicitDefEqProofs only [go_sem, Nat.reduceBEq, Nat.reduceAdd, Nat.reduceLeDiff, Nat.reduceMul, Int.reduceLE, Int.reduceLT, Int.reduceBEq, ne11, nf11, ne12, nf12, ne15, nf15, ne16, nf16, ne17, nf17, ce10_3, ce10_4, ce10_5, ce10_6, ce10_8, ce10_9, ce10_12, ce10_13, ce10_14, ce10_15, ce10_16, ce13, ce14_3, row0, row1, row2, row3, hoo])
  rfl
end Go.Bi
