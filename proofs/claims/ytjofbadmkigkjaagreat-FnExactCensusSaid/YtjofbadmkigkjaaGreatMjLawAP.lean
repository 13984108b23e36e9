/- Own lemmas that the theorem of this claim needs: the abstract machine and walks of functions. -/
import Derived.Test.YtjofbadmkigkjaaGreatMjLawAA
import Derived.Test.YtjofbadmkigkjaaGreatMjLawAB
import Derived.Test.YtjofbadmkigkjaaGreatMjLawAC
import Derived.Test.YtjofbadmkigkjaaGreatMjLawAD
import Derived.Test.YtjofbadmkigkjaaGreatMjLawAE
import Derived.Test.YtjofbadmkigkjaaGreatMjLawAF
import Derived.Test.YtjofbadmkigkjaaGreatMjLawAG
import Derived.Test.YtjofbadmkigkjaaGreatMjLawAH
import Derived.Test.YtjofbadmkigkjaaGreatMjLawAI
import Derived.Test.YtjofbadmkigkjaaGreatMjLawAJ
import Derived.Test.YtjofbadmkigkjaaGreatMjLawAK
import Derived.Test.YtjofbadmkigkjaaGreatMjLawAL
import Derived.Test.YtjofbadmkigkjaaGreatMjLawAM
import Derived.Test.YtjofbadmkigkjaaGreatMjLawAN
import Derived.Test.YtjofbadmkigkjaaGreatMjLawAO
section
set_option linter.unusedSimpArgs false
set_option linter.unusedVariables false
set_option maxRecDepth 20000
namespace Go.Bi
open Go.Proofs
open Go.Ai (wrap_i64)
variable {W0 : World}
theorem FnExactCensus_ok {F0 : Nat → Adr} {e : LEngine} {h : H2} (hf0 : fitEngine e) (hrg : rngEngine e) : WC2 Tryz.prog W0 5 [.st (xEngine F0 e)] h (fun v h' => v = .raw (.bool true)) := by
  refine start (P := Tryz.prog) [[0], [1], [1, 3], [1, 3], [], [1], [1, 4, 5, 6], [1, 4, 5, 6, 7], [1, 4, 5, 6, 7, 8, 9, 10], [], [1, 7], [], []] (by kernel_rfl) Tryz.func5 rfl (by decide) (by decide +kernel) (rs := [.tmp 2]) rfl rfl (Nat.le_of_ble_eq_true rfl) ?_
  intro wf
  repeat (first | rw [kz_o] | rw [kz_r0] | simp -dsimp -implicitDefEqProofs only [go_sem, Nat.reduceBEq, Nat.reduceAdd, Nat.reduceLeDiff, Nat.reduceMul, Int.reduceLE, Int.reduceLT, Int.reduceBEq])
  refine pw_intro (szEngine_ok hf0 ⟨by omega, by omega⟩) ?_
  rintro _ n1 hn1 ⟨k1, rfl, hk1⟩
  have hm1 := hn1
  try simp only [hn_push, hn_up] at hm1
  repeat (first | rw [kz_o] | rw [kz_r0] | simp -dsimp -implicitDefEqProofs only [go_sem, Nat.reduceBEq, Nat.reduceAdd, Nat.reduceLeDiff, Nat.reduceMul, Int.reduceLE, Int.reduceLT, Int.reduceBEq, hoo])
  refine gz_dec (fun q2 => ?_) (fun q2 => ?_)
  · repeat (first | rw [kz_o] | rw [kz_r0] | simp -dsimp -implicitDefEqProofs only [go_sem, Nat.reduceBEq, Nat.reduceAdd, Nat.reduceLeDiff, Nat.reduceMul, Int.reduceLE, Int.reduceLT, Int.reduceBEq])
    rfl
  have hsz_e : szEngine e ≤ 1048576 := by omega
  have hsm := smallEng_of hsz_e
  repeat (first | rw [kz_o] | rw [kz_r0] | simp -dsimp -implicitDefEqProofs only [go_sem, Nat.reduceBEq, Nat.reduceAdd, Nat.reduceLeDiff, Nat.reduceMul, Int.reduceLE, Int.reduceLT, Int.reduceBEq, hoo])
  refine wz_intro (toEngine_ok (by omega)) ?_
  rintro _ g3 ⟨l3, ys3, b3, rfl, o3, bl3⟩
  try simp only [hn_push, hn_up] at bl3
  have nn3 := l3.n
  try simp only [hn_push, hn_up] at nn3
  have LL3 : h.le g3 := H2.le.trans (by repeat (first | exact H2.le.refl _ | apply le_push | refine le_up ?_ (by assumption))) l3
  have ln3 := LL3.n
  have row0 : hg g3 (hn h .mk) .mk = some ⟨17, xEngine F0 e⟩ := (l3.2 (hn h .mk) (by simp only [hn_push, hn_up]; omega)).trans (by simp -dsimp -implicitDefEqProofs only [go_sem, Nat.reduceBEq, Nat.reduceAdd, Nat.reduceLeDiff, Nat.reduceMul, Int.reduceLE, Int.reduceLT, Int.reduceBEq, hoo])
  obtain ⟨b3_3, s3_3, b3_4, s3_4, b3_5, s3_5, b3_6, s3_6, b3_8, s3_8, b3_9, s3_9, b3_12, s3_12, b3_13, s3_13, b3_14, s3_14, b3_15, s3_15, b3_16, s3_16, rfl, rfl, o3_3, o3_4, o3_5, o3_6, o3_8, o3_9, o3_12, o3_13, o3_14, o3_15, o3_16⟩ := invEngine o3
  clear o3
  have bl3_3 := bl3.split.1
  have ce3_3 := OT.cell o3_3
  have bl3_4 := bl3.split.2.1.split.1
  have ce3_4 := OT.cell o3_4
  have bl3_5 := bl3.split.2.1.split.2.1.split.1
  have ce3_5 := OT.cell o3_5
  have bl3_6 := bl3.split.2.1.split.2.1.split.2.1.split.1
  have ce3_6 := OT.cell o3_6
  have bl3_8 := bl3.split.2.1.split.2.1.split.2.1.split.2.1.split.1
  have ce3_8 := OT.cell o3_8
  have bl3_9 := bl3.split.2.1.split.2.1.split.2.1.split.2.1.split.2.1.split.1
  have ce3_9 := OT.cell o3_9
  have bl3_12 := bl3.split.2.1.split.2.1.split.2.1.split.2.1.split.2.1.split.2.1.split.1
  have ce3_12 := OT.cell o3_12
  have bl3_13 := bl3.split.2.1.split.2.1.split.2.1.split.2.1.split.2.1.split.2.1.split.2.1.split.1
  have ce3_13 := OT.cell o3_13
  have bl3_14 := bl3.split.2.1.split.2.1.split.2.1.split.2.1.split.2.1.split.2.1.split.2.1.split.2.1.split.1
  have ce3_14 := OT.cell o3_14
  have bl3_15 := bl3.split.2.1.split.2.1.split.2.1.split.2.1.split.2.1.split.2.1.split.2.1.split.2.1.split.2.1.split.1
  have ce3_15 := OT.cell o3_15
  have bl3_16 := bl3.split.2.1.split.2.1.split.2.1.split.2.1.split.2.1.split.2.1.split.2.1.split.2.1.split.2.1.split.2.1
  have ce3_16 := OT.cell o3_16
  repeat (first | rw [kz_o] | rw [kz_r0] | simp -dsimp -implicitDefEqProofs only [go_sem, Nat.reduceBEq, Nat.reduceAdd, Nat.reduceLeDiff, Nat.reduceMul, Int.reduceLE, Int.reduceLT, Int.reduceBEq, ce3_3, ce3_4, ce3_5, ce3_6, ce3_8, ce3_9, ce3_12, ce3_13, ce3_14, ce3_15, ce3_16, row0, hoo])
  refine wz_intro (specCensus_tree (outEngine (c := e) (o3_3.keep (by repeat (first | exact H2.le.refl _ | apply le_push | refine le_up ?_ (by assumption))) (bl3_3.wide (Nat.le_refl _) (by omega))) (o3_4.keep (by repeat (first | exact H2.le.refl _ | apply le_push | refine le_up ?_ (by assumption))) (bl3_4.wide (Nat.le_refl _) (by omega))) (o3_5.keep (by repeat (first | exact H2.le.refl _ | apply le_push | refine le_up ?_ (by assumption))) (bl3_5.wide (Nat.le_refl _) (by omega))) (o3_6.keep (by repeat (first | exact H2.le.refl _ | apply le_push | refine le_up ?_ (by assumption))) (bl3_6.wide (Nat.le_refl _) (by omega))) (o3_8.keep (by repeat (first | exact H2.le.refl _ | apply le_push | refine le_up ?_ (by assumption))) (bl3_8.wide (Nat.le_refl _) (by omega))) (o3_9.keep (by repeat (first | exact H2.le.refl _ | apply le_push | refine le_up ?_ (by assumption))) (bl3_9.wide (Nat.le_refl _) (by omega))) (o3_12.keep (by repeat (first | exact H2.le.refl _ | apply le_push | refine le_up ?_ (by assumption))) (bl3_12.wide (Nat.le_refl _) (by omega))) (o3_13.keep (by repeat (first | exact H2.le.refl _ | apply le_push | refine le_up ?_ (by assumption))) (bl3_13.wide (Nat.le_refl _) (by omega))) (o3_14.keep (by repeat (first | exact H2.le.refl _ | apply le_push | refine le_up ?_ (by assumption))) (bl3_14.wide (Nat.le_refl _) (by omega))) (o3_15.keep (by repeat (first | exact H2.le.refl _ | apply le_push | refine le_up ?_ (by assumption))) (bl3_15.wide (Nat.le_refl _) (by omega))) (o3_16.keep (by repeat (first | exact H2.le.refl _ | apply le_push | refine le_up ?_ (by assumption))) (bl3_16.wide (Nat.le_refl _) (by omega)))) hsm hrg) ?_
  rintro _ g4 ⟨l4, rfl⟩
  have nn4 := l4.n
  try simp only [hn_push, hn_up] at nn4
  have LL4 : g3.le g4 := H2.le.trans (by repeat (first | exact H2.le.refl _ | apply le_push | refine le_up ?_ (by assumption))) l4
  have ln4 := LL4.n
  replace o3_3 := o3_3.keep LL4 (bl3_3.wide (Nat.le_refl _) (by omega))
  replace o3_4 := o3_4.keep LL4 (bl3_4.wide (Nat.le_refl _) (by omega))
  replace o3_5 := o3_5.keep LL4 (bl3_5.wide (Nat.le_refl _) (by omega))
  replace o3_6 := o3_6.keep LL4 (bl3_6.wide (Nat.le_refl _) (by omega))
  replace o3_8 := o3_8.keep LL4 (bl3_8.wide (Nat.le_refl _) (by omega))
  replace o3_9 := o3_9.keep LL4 (bl3_9.wide (Nat.le_refl _) (by omega))
  replace o3_12 := o3_12.keep LL4 (bl3_12.wide (Nat.le_refl _) (by omega))
  replace o3_13 := o3_13.keep LL4 (bl3_13.wide (Nat.le_refl _) (by omega))
  replace o3_14 := o3_14.keep LL4 (bl3_14.wide (Nat.le_refl _) (by omega))
  replace o3_15 := o3_15.keep LL4 (bl3_15.wide (Nat.le_refl _) (by omega))
  replace o3_16 := o3_16.keep LL4 (bl3_16.wide (Nat.le_refl _) (by omega))
  replace row0 := (LL4.2 (hn h .mk) (by omega)).trans row0
  repeat (first | rw [kz_o] | rw [kz_r0] | simp -dsimp -implicitDefEqProofs only [go_sem, Nat.reduceBEq, Nat.reduceAdd, Nat.reduceLeDiff, Nat.reduceMul, Int.reduceLE, Int.reduceLT, Int.reduceBEq, row0, hoo])
  refine wz_intro (toEngine_ok (by omega)) ?_
  rintro _ g5 ⟨l5, ys5, b5, rfl, o5, bl5⟩
  try simp only [hn_push, hn_up] at bl5
  have nn5 := l5.n
  try simp only [hn_push, hn_up] at nn5
  have LL5 : g4.le g5 := H2.le.trans (by repeat (first | exact H2.le.refl _ | apply le_push | refine le_up ?_ (by assumption))) l5
  have ln5 := LL5.n
  replace row0 := (LL5.2 (hn h .mk) (by omega)).trans row0
  obtain ⟨b5_3, s5_3, b5_4, s5_4, b5_5, s5_5, b5_6, s5_6, b5_8, s5_8, b5_9, s5_9, b5_12, s5_12, b5_13, s5_13, b5_14, s5_14, b5_15, s5_15, b5_16, s5_16, rfl, rfl, o5_3, o5_4, o5_5, o5_6, o5_8, o5_9, o5_12, o5_13, o5_14, o5_15, o5_16⟩ := invEngine o5
  clear o5
  have bl5_3 := bl5.split.1
  have ce5_3 := OT.cell o5_3
  have bl5_4 := bl5.split.2.1.split.1
  have ce5_4 := OT.cell o5_4
  have bl5_5 := bl5.split.2.1.split.2.1.split.1
  have ce5_5 := OT.cell o5_5
  have bl5_6 := bl5.split.2.1.split.2.1.split.2.1.split.1
  have ce5_6 := OT.cell o5_6
  have bl5_8 := bl5.split.2.1.split.2.1.split.2.1.split.2.1.split.1
  have ce5_8 := OT.cell o5_8
  have bl5_9 := bl5.split.2.1.split.2.1.split.2.1.split.2.1.split.2.1.split.1
  have ce5_9 := OT.cell o5_9
  have bl5_12 := bl5.split.2.1.split.2.1.split.2.1.split.2.1.split.2.1.split.2.1.split.1
  have ce5_12 := OT.cell o5_12
  have bl5_13 := bl5.split.2.1.split.2.1.split.2.1.split.2.1.split.2.1.split.2.1.split.2.1.split.1
  have ce5_13 := OT.cell o5_13
  have bl5_14 := bl5.split.2.1.split.2.1.split.2.1.split.2.1.split.2.1.split.2.1.split.2.1.split.2.1.split.1
  have ce5_14 := OT.cell o5_14
  have bl5_15 := bl5.split.2.1.split.2.1.split.2.1.split.2.1.split.2.1.split.2.1.split.2.1.split.2.1.split.2.1.split.1
  have ce5_15 := OT.cell o5_15
  have bl5_16 := bl5.split.2.1.split.2.1.split.2.1.split.2.1.split.2.1.split.2.1.split.2.1.split.2.1.split.2.1.split.2.1
  have ce5_16 := OT.cell o5_16
  have ne6 : ((hn h .mk) == (hn g5 .mk)) = false := by simp; omega
  have nf6 : ((hn g5 .mk) == (hn h .mk)) = false := by simp; omega
  repeat (first | rw [kz_o] | rw [kz_r0] | simp -dsimp -implicitDefEqProofs only [go_sem, Nat.reduceBEq, Nat.reduceAdd, Nat.reduceLeDiff, Nat.reduceMul, Int.reduceLE, Int.reduceLT, Int.reduceBEq, ce5_3, ce5_4, ce5_5, ce5_6, ce5_8, ce5_9, ce5_12, ce5_13, ce5_14, ce5_15, ce5_16, row0, ne6, nf6, hoo])
  refine wz_intro (implCensus_tree (outEngine (c := e) (o5_3.keep (by repeat (first | exact H2.le.refl _ | apply le_push | refine le_up ?_ (by assumption))) (bl5_3.wide (Nat.le_refl _) (by omega))) (o5_4.keep (by repeat (first | exact H2.le.refl _ | apply le_push | refine le_up ?_ (by assumption))) (bl5_4.wide (Nat.le_refl _) (by omega))) (o5_5.keep (by repeat (first | exact H2.le.refl _ | apply le_push | refine le_up ?_ (by assumption))) (bl5_5.wide (Nat.le_refl _) (by omega))) (o5_6.keep (by repeat (first | exact H2.le.refl _ | apply le_push | refine le_up ?_ (by assumption))) (bl5_6.wide (Nat.le_refl _) (by omega))) (o5_8.keep (by repeat (first | exact H2.le.refl _ | apply le_push | refine le_up ?_ (by assumption))) (bl5_8.wide (Nat.le_refl _) (by omega))) (o5_9.keep (by repeat (first | exact H2.le.refl _ | apply le_push | refine le_up ?_ (by assumption))) (bl5_9.wide (Nat.le_refl _) (by omega))) (o5_12.keep (by repeat (first | exact H2.le.refl _ | apply le_push | refine le_up ?_ (by assumption))) (bl5_12.wide (Nat.le_refl _) (by omega))) (o5_13.keep (by repeat (first | exact H2.le.refl _ | apply le_push | refine le_up ?_ (by assumption))) (bl5_13.wide (Nat.le_refl _) (by omega))) (o5_14.keep (by repeat (first | exact H2.le.refl _ | apply le_push | refine le_up ?_ (by assumption))) (bl5_14.wide (Nat.le_refl _) (by omega))) (o5_15.keep (by repeat (first | exact H2.le.refl _ | apply le_push | refine le_up ?_ (by assumption))) (bl5_15.wide (Nat.le_refl _) (by omega))) (o5_16.keep (by repeat (first | exact H2.le.refl _ | apply le_push | refine le_up ?_ (by assumption))) (bl5_16.wide (Nat.le_refl _) (by omega)))) hsm hrg) ?_
  rintro _ g7 ⟨l7, rfl⟩
  have nn7 := l7.n
  try simp only [hn_push, hn_up] at nn7
  have LL7 : g5.le g7 := H2.le.trans (by repeat (first | exact H2.le.refl _ | apply le_push | refine le_up ?_ (by assumption))) l7
  have ln7 := LL7.n
  replace o5_3 := o5_3.keep LL7 (bl5_3.wide (Nat.le_refl _) (by omega))
  replace o5_4 := o5_4.keep LL7 (bl5_4.wide (Nat.le_refl _) (by omega))
  replace o5_5 := o5_5.keep LL7 (bl5_5.wide (Nat.le_refl _) (by omega))
  replace o5_6 := o5_6.keep LL7 (bl5_6.wide (Nat.le_refl _) (by omega))
  replace o5_8 := o5_8.keep LL7 (bl5_8.wide (Nat.le_refl _) (by omega))
  replace o5_9 := o5_9.keep LL7 (bl5_9.wide (Nat.le_refl _) (by omega))
  replace o5_12 := o5_12.keep LL7 (bl5_12.wide (Nat.le_refl _) (by omega))
  replace o5_13 := o5_13.keep LL7 (bl5_13.wide (Nat.le_refl _) (by omega))
  replace o5_14 := o5_14.keep LL7 (bl5_14.wide (Nat.le_refl _) (by omega))
  replace o5_15 := o5_15.keep LL7 (bl5_15.wide (Nat.le_refl _) (by omega))
  replace o5_16 := o5_16.keep LL7 (bl5_16.wide (Nat.le_refl _) (by omega))
  replace row0 := (LL7.2 (hn h .mk) (by omega)).trans row0
  have row1 : hg g7 (hn g5 .mk) .mk = some ⟨17, [.raw (.int .i64 e.model.dim), .raw (.int .i64 e.model.heads), .raw (.int .i64 e.model.context), s5_3, s5_4, s5_5, s5_6, .raw (.int .i64 e.model.head.width), s5_8, s5_9, .raw (.int .i64 e.model.head.mul), .raw (.int .i64 e.model.head.shift), s5_12, s5_13, s5_14, s5_15, s5_16]⟩ := (l7.2 (hn g5 .mk) (by simp only [hn_push, hn_up]; omega)).trans (by simp -dsimp -implicitDefEqProofs only [go_sem, Nat.reduceBEq, Nat.reduceAdd, Nat.reduceLeDiff, Nat.reduceMul, Int.reduceLE, Int.reduceLT, Int.reduceBEq, ne6, nf6, ce5_3, ce5_4, ce5_5, ce5_6, ce5_8, ce5_9, ce5_12, ce5_13, ce5_14, ce5_15, ce5_16, row0, hoo])
  repeat (first | rw [kz_o] | rw [kz_r0] | simp -dsimp -implicitDefEqProofs only [go_sem, Nat.reduceBEq, Nat.reduceAdd, Nat.reduceLeDiff, Nat.reduceMul, Int.reduceLE, Int.reduceLT, Int.reduceBEq, ne6, nf6, ce5_3, ce5_4, ce5_5, ce5_6, ce5_8, ce5_9, ce5_12, ce5_13, ce5_14, ce5_15, ce5_16, row0, row1, hoo])
  refine dq_intro [(0, []), (1, []), (2, [0]), (3, []), (4, [])] (by kernel_rfl) ?_
  repeat (first | rw [kz_o] | rw [kz_r0] | simp -dsimp -implicitDefEqProofs only [go_sem, Nat.reduceBEq, Nat.reduceAdd, Nat.reduceLeDiff, Nat.reduceMul, Int.reduceLE, Int.reduceLT, Int.reduceBEq, ne6, nf6, ce5_3, ce5_4, ce5_5, ce5_6, ce5_8, ce5_9, ce5_12, ce5_13, ce5_14, ce5_15, ce5_16, row0, row1, hoo])
  refine wz_intro (toEngine_ok (by omega)) ?_
  rintro _ g8 ⟨l8, ys8, b8, rfl, o8, bl8⟩
  try simp only [hn_push, hn_up] at bl8
  have nn8 := l8.n
  try simp only [hn_push, hn_up] at nn8
  have LL8 : g7.le g8 := H2.le.trans (by repeat (first | exact H2.le.refl _ | apply le_push | refine le_up ?_ (by assumption))) l8
  have ln8 := LL8.n
  replace o5_3 := o5_3.keep LL8 (bl5_3.wide (Nat.le_refl _) (by omega))
  replace o5_4 := o5_4.keep LL8 (bl5_4.wide (Nat.le_refl _) (by omega))
  replace o5_5 := o5_5.keep LL8 (bl5_5.wide (Nat.le_refl _) (by omega))
  replace o5_6 := o5_6.keep LL8 (bl5_6.wide (Nat.le_refl _) (by omega))
  replace o5_8 := o5_8.keep LL8 (bl5_8.wide (Nat.le_refl _) (by omega))
  replace o5_9 := o5_9.keep LL8 (bl5_9.wide (Nat.le_refl _) (by omega))
  replace o5_12 := o5_12.keep LL8 (bl5_12.wide (Nat.le_refl _) (by omega))
  replace o5_13 := o5_13.keep LL8 (bl5_13.wide (Nat.le_refl _) (by omega))
  replace o5_14 := o5_14.keep LL8 (bl5_14.wide (Nat.le_refl _) (by omega))
  replace o5_15 := o5_15.keep LL8 (bl5_15.wide (Nat.le_refl _) (by omega))
  replace o5_16 := o5_16.keep LL8 (bl5_16.wide (Nat.le_refl _) (by omega))
  replace row0 := (LL8.2 (hn h .mk) (by omega)).trans row0
  replace row1 := (LL8.2 (hn g5 .mk) (by omega)).trans row1
  obtain ⟨b8_3, s8_3, b8_4, s8_4, b8_5, s8_5, b8_6, s8_6, b8_8, s8_8, b8_9, s8_9, b8_12, s8_12, b8_13, s8_13, b8_14, s8_14, b8_15, s8_15, b8_16, s8_16, rfl, rfl, o8_3, o8_4, o8_5, o8_6, o8_8, o8_9, o8_12, o8_13, o8_14, o8_15, o8_16⟩ := invEngine o8
  clear o8
  have bl8_3 := bl8.split.1
  have ce8_3 := OT.cell o8_3
  have bl8_4 := bl8.split.2.1.split.1
  have ce8_4 := OT.cell o8_4
  have bl8_5 := bl8.split.2.1.split.2.1.split.1
  have ce8_5 := OT.cell o8_5
  have bl8_6 := bl8.split.2.1.split.2.1.split.2.1.split.1
  have ce8_6 := OT.cell o8_6
  have bl8_8 := bl8.split.2.1.split.2.1.split.2.1.split.2.1.split.1
  have ce8_8 := OT.cell o8_8
  have bl8_9 := bl8.split.2.1.split.2.1.split.2.1.split.2.1.split.2.1.split.1
  have ce8_9 := OT.cell o8_9
  have bl8_12 := bl8.split.2.1.split.2.1.split.2.1.split.2.1.split.2.1.split.2.1.split.1
  have ce8_12 := OT.cell o8_12
  have bl8_13 := bl8.split.2.1.split.2.1.split.2.1.split.2.1.split.2.1.split.2.1.split.2.1.split.1
  have ce8_13 := OT.cell o8_13
  have bl8_14 := bl8.split.2.1.split.2.1.split.2.1.split.2.1.split.2.1.split.2.1.split.2.1.split.2.1.split.1
  have ce8_14 := OT.cell o8_14
  have bl8_15 := bl8.split.2.1.split.2.1.split.2.1.split.2.1.split.2.1.split.2.1.split.2.1.split.2.1.split.2.1.split.1
  have ce8_15 := OT.cell o8_15
  have bl8_16 := bl8.split.2.1.split.2.1.split.2.1.split.2.1.split.2.1.split.2.1.split.2.1.split.2.1.split.2.1.split.2.1
  have ce8_16 := OT.cell o8_16
  rw [kz_r]
  refine ⟨by simp -dsimp -implicitDefEqProofs only [go_sem, Nat.reduceBEq, Nat.reduceAdd, Nat.reduceLeDiff, Nat.reduceMul, Int.reduceLE, Int.reduceLT, Int.reduceBEq, ne6, nf6, ce5_3, ce5_4, ce5_5, ce5_6, ce5_8, ce5_9, ce5_12, ce5_13, ce5_14, ce5_15, ce5_16, ce8_3, ce8_4, ce8_5, ce8_6, ce8_8, ce8_9, ce8_12, ce8_13, ce8_14, ce8_15, ce8_16, row0, row1, hoo], ?_⟩
  repeat (first | rw [kz_o] | rw [kz_r0] | simp -dsimp -implicitDefEqProofs only [go_sem, Nat.reduceBEq, Nat.reduceAdd, Nat.reduceLeDiff, Nat.reduceMul, Int.reduceLE, Int.reduceLT, Int.reduceBEq, ne6, nf6, ce5_3, ce5_4, ce5_5, ce5_6, ce5_8, ce5_9, ce5_12, ce5_13, ce5_14, ce5_15, ce5_16, ce8_3, ce8_4, ce8_5, ce8_6, ce8_8, ce8_9, ce8_12, ce8_13, ce8_14, ce8_15, ce8_16, row0, row1, hoo])
  refine pw_intro (eqEngine_tree (outEngine (c := e) (o5_3.keep (by repeat (first | exact H2.le.refl _ | apply le_push | refine le_up ?_ (by assumption))) (bl5_3.wide (Nat.le_refl _) (by omega))) (o5_4.keep (by repeat (first | exact H2.le.refl _ | apply le_push | refine le_up ?_ (by assumption))) (bl5_4.wide (Nat.le_refl _) (by omega))) (o5_5.keep (by repeat (first | exact H2.le.refl _ | apply le_push | refine le_up ?_ (by assumption))) (bl5_5.wide (Nat.le_refl _) (by omega))) (o5_6.keep (by repeat (first | exact H2.le.refl _ | apply le_push | refine le_up ?_ (by assumption))) (bl5_6.wide (Nat.le_refl _) (by omega))) (o5_8.keep (by repeat (first | exact H2.le.refl _ | apply le_push | refine le_up ?_ (by assumption))) (bl5_8.wide (Nat.le_refl _) (by omega))) (o5_9.keep (by repeat (first | exact H2.le.refl _ | apply le_push | refine le_up ?_ (by assumption))) (bl5_9.wide (Nat.le_refl _) (by omega))) (o5_12.keep (by repeat (first | exact H2.le.refl _ | apply le_push | refine le_up ?_ (by assumption))) (bl5_12.wide (Nat.le_refl _) (by omega))) (o5_13.keep (by repeat (first | exact H2.le.refl _ | apply le_push | refine le_up ?_ (by assumption))) (bl5_13.wide (Nat.le_refl _) (by omega))) (o5_14.keep (by repeat (first | exact H2.le.refl _ | apply le_push | refine le_up ?_ (by assumption))) (bl5_14.wide (Nat.le_refl _) (by omega))) (o5_15.keep (by repeat (first | exact H2.le.refl _ | apply le_push | refine le_up ?_ (by assumption))) (bl5_15.wide (Nat.le_refl _) (by omega))) (o5_16.keep (by repeat (first | exact H2.le.refl _ | apply le_push | refine le_up ?_ (by assumption))) (bl5_16.wide (Nat.le_refl _) (by omega)))) (outEngine (c := e) (o8_3.keep (by repeat (first | exact H2.le.refl _ | apply le_push | refine le_up ?_ (by assumption))) (bl8_3.wide (Nat.le_refl _) (by omega))) (o8_4.keep (by repeat (first | exact H2.le.refl _ | apply le_push | refine le_up ?_ (by assumption))) (bl8_4.wide (Nat.le_refl _) (by omega))) (o8_5.keep (by repeat (first | exact H2.le.refl _ | apply le_push | refine le_up ?_ (by assumption))) (bl8_5.wide (Nat.le_refl _) (by omega))) (o8_6.keep (by repeat (first | exact H2.le.refl _ | apply le_push | refine le_up ?_ (by assumption))) (bl8_6.wide (Nat.le_refl _) (by omega))) (o8_8.keep (by repeat (first | exact H2.le.refl _ | apply le_push | refine le_up ?_ (by assumption))) (bl8_8.wide (Nat.le_refl _) (by omega))) (o8_9.keep (by repeat (first | exact H2.le.refl _ | apply le_push | refine le_up ?_ (by assumption))) (bl8_9.wide (Nat.le_refl _) (by omega))) (o8_12.keep (by repeat (first | exact H2.le.refl _ | apply le_push | refine le_up ?_ (by assumption))) (bl8_12.wide (Nat.le_refl _) (by omega))) (o8_13.keep (by repeat (first | exact H2.le.refl _ | apply le_push | refine le_up ?_ (by assumption))) (bl8_13.wide (Nat.le_refl _) (by omega))) (o8_14.keep (by repeat (first | exact H2.le.refl _ | apply le_push | refine le_up ?_ (by assumption))) (bl8_14.wide (Nat.le_refl _) (by omega))) (o8_15.keep (by repeat (first | exact H2.le.refl _ | apply le_push | refine le_up ?_ (by assumption))) (bl8_15.wide (Nat.le_refl _) (by omega))) (o8_16.keep (by repeat (first | exact H2.le.refl _ | apply le_push | refine le_up ?_ (by assumption))) (bl8_16.wide (Nat.le_refl _) (by omega)))) hf0) ?_
  rintro _ n9 hn9 rfl
  have hm9 := hn9
  try simp only [hn_push, hn_up] at hm9
  repeat (first | rw [kz_o] | rw [kz_r0] | simp -dsimp -implicitDefEqProofs only [go_sem, Nat.reduceBEq, Nat.reduceAdd, Nat.reduceLeDiff, Nat.reduceMul, Int.reduceLE, Int.reduceLT, Int.reduceBEq, ne6, nf6, ce5_3, ce5_4, ce5_5, ce5_6, ce5_8, ce5_9, ce5_12, ce5_13, ce5_14, ce5_15, ce5_16, row0, row1, hoo])
  rfl
end Go.Bi
end
