/- Own lemmas that the theorem of this claim needs: the abstract machine and walks of functions. -/
import Derived.Test.YtjofbadmkigkjaaGreatNnLawAA
import Derived.Test.YtjofbadmkigkjaaGreatNnLawAB
import Derived.Test.YtjofbadmkigkjaaGreatNnLawAC
import Derived.Test.YtjofbadmkigkjaaGreatNnLawAD
import Derived.Test.YtjofbadmkigkjaaGreatNnLawAE
import Derived.Test.YtjofbadmkigkjaaGreatNnLawAF
import Derived.Test.YtjofbadmkigkjaaGreatNnLawAG
import Derived.Test.YtjofbadmkigkjaaGreatNnLawAH
import Derived.Test.YtjofbadmkigkjaaGreatNnLawAI
import Derived.Test.YtjofbadmkigkjaaGreatNnLawAJ
import Derived.Test.YtjofbadmkigkjaaGreatNnLawAK
import Derived.Test.YtjofbadmkigkjaaGreatNnLawAL
import Derived.Test.YtjofbadmkigkjaaGreatNnLawAM
import Derived.Test.YtjofbadmkigkjaaGreatNnLawAN
import Derived.Test.YtjofbadmkigkjaaGreatNnLawAO
import Derived.Test.YtjofbadmkigkjaaGreatNnLawAP
import Derived.Test.YtjofbadmkigkjaaGreatNnLawAQ
import Derived.Test.YtjofbadmkigkjaaGreatNnLawAR
import Derived.Test.YtjofbadmkigkjaaGreatNnLawAS
open Nat renaming reduceBEq → rq1, reduceAdd → rq2, reduceLeDiff → rq3, reduceMul → rq4
open Int renaming reduceLE → rq5, reduceLT → rq6, reduceBEq → rq7
section
set_option linter.unusedSimpArgs false
set_option linter.unusedVariables false
set_option maxRecDepth 20000
set_option maxHeartbeats 8000000
namespace Go.Bi
open Go.Proofs
open Go.Ai (wrap_i64 wrap_u8)
variable {W0 : World}
theorem FnExactEngineNew_ok {F0 : Nat → Adr} {m : LModel} {p : Int} {h : H2} (hf0 : fitModel m)   : WC2 Tryz.prog W0 6 [.st (xModel F0 m), .raw (.int .i64 p)] h (fun v h' => v = .raw (.bool true)) := by
  refine start (P := Tryz.prog) [[0, 1], [1, 2], [1, 2, 5], [1, 2, 5], [], [1, 2], [1, 2, 6, 7], [1, 2, 6, 7, 8], [1, 2, 6, 7, 8, 9, 10], [], [1, 2, 6, 7, 8, 9, 10], [], [1, 2, 6, 7, 8, 9, 10], [1, 2, 6, 7, 8, 9, 10, 11], [1, 2, 6, 7, 9, 10, 11], [], [1, 2, 6, 7, 9], [1, 2, 6, 7, 9, 12], [1, 2, 6, 7, 9, 12], [1, 2, 6, 7, 9, 12, 13], [1, 2, 6, 7, 9, 12, 13], [], [1, 2, 6, 7, 9, 12, 13], [], [1, 2, 6, 7, 9, 12], [6, 7, 9, 12, 14, 15], [], [9, 12], [9, 12, 13], [12, 13], [], [12, 13], [], []] (by kernel_rfl) Tryz.func6 rfl (by decide) (by decide +kernel) (rs := [.tmp 4]) rfl rfl (Nat.le_of_ble_eq_true rfl) ?_
  intro wf
  repeat (first | rw [kz_o] | rw [kz_r0] | simp -dsimp -implicitDefEqProofs only [go_sem, rq1, rq2, rq3, rq4, rq5, rq6, rq7])
  refine pw_intro (szModel_ok hf0 ⟨by omega, by omega⟩) ?_
  rintro _ n1 hn1 ⟨k1, rfl, hk1⟩
  have hm1 := hn1
  try simp only [hn_push, hn_up] at hm1
  repeat (first | rw [kz_o] | rw [kz_r0] | simp -dsimp -implicitDefEqProofs only [go_sem, rq1, rq2, rq3, rq4, rq5, rq6, rq7, hoo])
  refine gz_dec (fun q2 => ?_) (fun q2 => ?_)
  · repeat (first | rw [kz_o] | rw [kz_r0] | simp -dsimp -implicitDefEqProofs only [go_sem, rq1, rq2, rq3, rq4, rq5, rq6, rq7])
    rfl
  have hsz_m : szModel m ≤ 1048576 := by omega
  have hfe : fitEngine (newE m p) := newE_fit hf0
  have hszn : szEngine (newE m p) ≤ 1048704 := newE_sz hsz_m
  repeat (first | rw [kz_o] | rw [kz_r0] | simp -dsimp -implicitDefEqProofs only [go_sem, rq1, rq2, rq3, rq4, rq5, rq6, rq7, hoo])
  refine wz_intro (toModel_ok (by omega)) ?_
  rintro _ g3 ⟨l3, ys3, b3, rfl, o3, bl3⟩
  try simp only [hn_push, hn_up] at bl3
  have nn3 := l3.n
  try simp only [hn_push, hn_up] at nn3
  have LL3 : h.le g3 := H2.le.trans (by repeat (first | exact H2.le.refl _ | apply le_push | refine le_up ?_ (by assumption))) l3
  have ln3 := LL3.n
  have row0 : hg g3 (hn h .mk) .mk = some ⟨14, xModel F0 m⟩ := (l3.2 (hn h .mk) (by simp only [hn_push, hn_up]; omega)).trans (by simp -dsimp -implicitDefEqProofs only [go_sem, rq1, rq2, rq3, rq4, rq5, rq6, rq7, hoo])
  obtain ⟨b3_3, s3_3, b3_4, s3_4, b3_5, s3_5, b3_6, s3_6, b3_8, s3_8, b3_9, s3_9, b3_12, s3_12, b3_13, s3_13, rfl, rfl, o3_3, o3_4, o3_5, o3_6, o3_8, o3_9, o3_12, o3_13⟩ := invModel o3
  clear o3
  have bl3_3 := bl3.split.1
  have ce3_3 := OT.cell o3_3
  have bl3_4 := bl3.split.2.1.split.1
  have ce3_4 := OT.cell o3_4
  have bl3_5 := bl3.split.2.1.split.2.1.split.1
  have ce3_5 := OT.cell o3_5
  have bl3_6 := bl3.split.2.1.split.2.1.split.2.1.split.1
  have ce3_6 := OT.cell o3_6
  have bl3_8 := bl3.split.2.1.split.2.1.split.2.1.split.2.1.split.1
  have ce3_8 := OT.cell o3_8
  have bl3_9 := bl3.split.2.1.split.2.1.split.2.1.split.2.1.split.2.1.split.1
  have ce3_9 := OT.cell o3_9
  have bl3_12 := bl3.split.2.1.split.2.1.split.2.1.split.2.1.split.2.1.split.2.1.split.1
  have ce3_12 := OT.cell o3_12
  have bl3_13 := bl3.split.2.1.split.2.1.split.2.1.split.2.1.split.2.1.split.2.1.split.2.1
  have ce3_13 := OT.cell o3_13
  repeat (first | rw [kz_o] | rw [kz_r0] | simp -dsimp -implicitDefEqProofs only [go_sem, rq1, rq2, rq3, rq4, rq5, rq6, rq7, ce3_3, ce3_4, ce3_5, ce3_6, ce3_8, ce3_9, ce3_12, ce3_13, row0, hoo])
  refine wz_intro (specNew_tree (outModel (c := m) (o3_3.keep (by repeat (first | exact H2.le.refl _ | apply le_push | refine le_up ?_ (by assumption))) (bl3_3.wide (Nat.le_refl _) (by omega))) (o3_4.keep (by repeat (first | exact H2.le.refl _ | apply le_push | refine le_up ?_ (by assumption))) (bl3_4.wide (Nat.le_refl _) (by omega))) (o3_5.keep (by repeat (first | exact H2.le.refl _ | apply le_push | refine le_up ?_ (by assumption))) (bl3_5.wide (Nat.le_refl _) (by omega))) (o3_6.keep (by repeat (first | exact H2.le.refl _ | apply le_push | refine le_up ?_ (by assumption))) (bl3_6.wide (Nat.le_refl _) (by omega))) (o3_8.keep (by repeat (first | exact H2.le.refl _ | apply le_push | refine le_up ?_ (by assumption))) (bl3_8.wide (Nat.le_refl _) (by omega))) (o3_9.keep (by repeat (first | exact H2.le.refl _ | apply le_push | refine le_up ?_ (by assumption))) (bl3_9.wide (Nat.le_refl _) (by omega))) (o3_12.keep (by repeat (first | exact H2.le.refl _ | apply le_push | refine le_up ?_ (by assumption))) (bl3_12.wide (Nat.le_refl _) (by omega))) (o3_13.keep (by repeat (first | exact H2.le.refl _ | apply le_push | refine le_up ?_ (by assumption))) (bl3_13.wide (Nat.le_refl _) (by omega)))) (by omega)) ?_
  rintro _ g4 ⟨l4, ys4, b4, rfl, o4, bl4⟩
  try simp only [hn_push, hn_up] at bl4
  have nn4 := l4.n
  try simp only [hn_push, hn_up] at nn4
  have LL4 : g3.le g4 := H2.le.trans (by repeat (first | exact H2.le.refl _ | apply le_push | refine le_up ?_ (by assumption))) l4
  have ln4 := LL4.n
  replace o3_3 := o3_3.keep LL4 (bl3_3.wide (Nat.le_refl _) (by omega))
  replace o3_4 := o3_4.keep LL4 (bl3_4.wide (Nat.le_refl _) (by omega))
  replace o3_5 := o3_5.keep LL4 (bl3_5.wide (Nat.le_refl _) (by omega))
  replace o3_6 := o3_6.keep LL4 (bl3_6.wide (Nat.le_refl _) (by omega))
  replace o3_8 := o3_8.keep LL4 (bl3_8.wide (Nat.le_refl _) (by omega))
  replace o3_9 := o3_9.keep LL4 (bl3_9.wide (Nat.le_refl _) (by omega))
  replace o3_12 := o3_12.keep LL4 (bl3_12.wide (Nat.le_refl _) (by omega))
  replace o3_13 := o3_13.keep LL4 (bl3_13.wide (Nat.le_refl _) (by omega))
  replace row0 := (LL4.2 (hn h .mk) (by omega)).trans row0
  obtain ⟨b4_3, s4_3, b4_4, s4_4, b4_5, s4_5, b4_6, s4_6, b4_8, s4_8, b4_9, s4_9, b4_12, s4_12, b4_13, s4_13, b4_14, s4_14, b4_15, s4_15, b4_16, s4_16, rfl, rfl, o4_3, o4_4, o4_5, o4_6, o4_8, o4_9, o4_12, o4_13, o4_14, o4_15, o4_16⟩ := invEngine o4
  clear o4
  have bl4_3 := bl4.split.1
  have ce4_3 := OT.cell o4_3
  have bl4_4 := bl4.split.2.1.split.1
  have ce4_4 := OT.cell o4_4
  have bl4_5 := bl4.split.2.1.split.2.1.split.1
  have ce4_5 := OT.cell o4_5
  have bl4_6 := bl4.split.2.1.split.2.1.split.2.1.split.1
  have ce4_6 := OT.cell o4_6
  have bl4_8 := bl4.split.2.1.split.2.1.split.2.1.split.2.1.split.1
  have ce4_8 := OT.cell o4_8
  have bl4_9 := bl4.split.2.1.split.2.1.split.2.1.split.2.1.split.2.1.split.1
  have ce4_9 := OT.cell o4_9
  have bl4_12 := bl4.split.2.1.split.2.1.split.2.1.split.2.1.split.2.1.split.2.1.split.1
  have ce4_12 := OT.cell o4_12
  have bl4_13 := bl4.split.2.1.split.2.1.split.2.1.split.2.1.split.2.1.split.2.1.split.2.1.split.1
  have ce4_13 := OT.cell o4_13
  have bl4_14 := bl4.split.2.1.split.2.1.split.2.1.split.2.1.split.2.1.split.2.1.split.2.1.split.2.1.split.1
  have ce4_14 := OT.cell o4_14
  have bl4_15 := bl4.split.2.1.split.2.1.split.2.1.split.2.1.split.2.1.split.2.1.split.2.1.split.2.1.split.2.1.split.1
  have ce4_15 := OT.cell o4_15
  have bl4_16 := bl4.split.2.1.split.2.1.split.2.1.split.2.1.split.2.1.split.2.1.split.2.1.split.2.1.split.2.1.split.2.1
  have ce4_16 := OT.cell o4_16
  have ne5 : ((hn h .mk) == (hn g4 .mk)) = false := by simp; omega
  have nf5 : ((hn g4 .mk) == (hn h .mk)) = false := by simp; omega
  repeat (first | rw [kz_o] | rw [kz_r0] | simp -dsimp -implicitDefEqProofs only [go_sem, rq1, rq2, rq3, rq4, rq5, rq6, rq7, ce4_3, ce4_4, ce4_5, ce4_6, ce4_8, ce4_9, ce4_12, ce4_13, ce4_14, ce4_15, ce4_16, row0, ne5, nf5, hoo])
  refine wz_intro (toModel_ok (by omega)) ?_
  rintro _ g6 ⟨l6, ys6, b6, rfl, o6, bl6⟩
  try simp only [hn_push, hn_up] at bl6
  have nn6 := l6.n
  try simp only [hn_push, hn_up] at nn6
  have LL6 : g4.le g6 := H2.le.trans (by repeat (first | exact H2.le.refl _ | apply le_push | refine le_up ?_ (by assumption))) l6
  have ln6 := LL6.n
  replace o4_3 := o4_3.keep LL6 (bl4_3.wide (Nat.le_refl _) (by omega))
  replace o4_4 := o4_4.keep LL6 (bl4_4.wide (Nat.le_refl _) (by omega))
  replace o4_5 := o4_5.keep LL6 (bl4_5.wide (Nat.le_refl _) (by omega))
  replace o4_6 := o4_6.keep LL6 (bl4_6.wide (Nat.le_refl _) (by omega))
  replace o4_8 := o4_8.keep LL6 (bl4_8.wide (Nat.le_refl _) (by omega))
  replace o4_9 := o4_9.keep LL6 (bl4_9.wide (Nat.le_refl _) (by omega))
  replace o4_12 := o4_12.keep LL6 (bl4_12.wide (Nat.le_refl _) (by omega))
  replace o4_13 := o4_13.keep LL6 (bl4_13.wide (Nat.le_refl _) (by omega))
  replace o4_14 := o4_14.keep LL6 (bl4_14.wide (Nat.le_refl _) (by omega))
  replace o4_15 := o4_15.keep LL6 (bl4_15.wide (Nat.le_refl _) (by omega))
  replace o4_16 := o4_16.keep LL6 (bl4_16.wide (Nat.le_refl _) (by omega))
  replace row0 := (LL6.2 (hn h .mk) (by omega)).trans row0
  have row1 : hg g6 (hn g4 .mk) .mk = some ⟨17, [.raw (.int .i64 (newE m p).model.dim), .raw (.int .i64 (newE m p).model.heads), .raw (.int .i64 (newE m p).model.context), s4_3, s4_4, s4_5, s4_6, .raw (.int .i64 (newE m p).model.head.width), s4_8, s4_9, .raw (.int .i64 (newE m p).model.head.mul), .raw (.int .i64 (newE m p).model.head.shift), s4_12, s4_13, s4_14, s4_15, s4_16]⟩ := (l6.2 (hn g4 .mk) (by simp only [hn_push, hn_up]; omega)).trans (by simp -dsimp -implicitDefEqProofs only [go_sem, rq1, rq2, rq3, rq4, rq5, rq6, rq7, ne5, nf5, ce4_3, ce4_4, ce4_5, ce4_6, ce4_8, ce4_9, ce4_12, ce4_13, ce4_14, ce4_15, ce4_16, row0, hoo])
  obtain ⟨b6_3, s6_3, b6_4, s6_4, b6_5, s6_5, b6_6, s6_6, b6_8, s6_8, b6_9, s6_9, b6_12, s6_12, b6_13, s6_13, rfl, rfl, o6_3, o6_4, o6_5, o6_6, o6_8, o6_9, o6_12, o6_13⟩ := invModel o6
  clear o6
  have bl6_3 := bl6.split.1
  have ce6_3 := OT.cell o6_3
  have bl6_4 := bl6.split.2.1.split.1
  have ce6_4 := OT.cell o6_4
  have bl6_5 := bl6.split.2.1.split.2.1.split.1
  have ce6_5 := OT.cell o6_5
  have bl6_6 := bl6.split.2.1.split.2.1.split.2.1.split.1
  have ce6_6 := OT.cell o6_6
  have bl6_8 := bl6.split.2.1.split.2.1.split.2.1.split.2.1.split.1
  have ce6_8 := OT.cell o6_8
  have bl6_9 := bl6.split.2.1.split.2.1.split.2.1.split.2.1.split.2.1.split.1
  have ce6_9 := OT.cell o6_9
  have bl6_12 := bl6.split.2.1.split.2.1.split.2.1.split.2.1.split.2.1.split.2.1.split.1
  have ce6_12 := OT.cell o6_12
  have bl6_13 := bl6.split.2.1.split.2.1.split.2.1.split.2.1.split.2.1.split.2.1.split.2.1
  have ce6_13 := OT.cell o6_13
  have ne7 : ((hn h .mk) == (hn g6 .mk)) = false := by simp; omega
  have nf7 : ((hn g6 .mk) == (hn h .mk)) = false := by simp; omega
  have ne8 : ((hn g4 .mk) == (hn g6 .mk)) = false := by simp; omega
  have nf8 : ((hn g6 .mk) == (hn g4 .mk)) = false := by simp; omega
  repeat (first | rw [kz_o] | rw [kz_r0] | simp -dsimp -implicitDefEqProofs only [go_sem, rq1, rq2, rq3, rq4, rq5, rq6, rq7, ne5, nf5, ce4_3, ce4_4, ce4_5, ce4_6, ce4_8, ce4_9, ce4_12, ce4_13, ce4_14, ce4_15, ce4_16, ce6_3, ce6_4, ce6_5, ce6_6, ce6_8, ce6_9, ce6_12, ce6_13, row0, row1, ne7, nf7, ne8, nf8, hoo])
  refine wz_intro (implNew_tree (outModel (c := m) (o6_3.keep (by repeat (first | exact H2.le.refl _ | apply le_push | refine le_up ?_ (by assumption))) (bl6_3.wide (Nat.le_refl _) (by omega))) (o6_4.keep (by repeat (first | exact H2.le.refl _ | apply le_push | refine le_up ?_ (by assumption))) (bl6_4.wide (Nat.le_refl _) (by omega))) (o6_5.keep (by repeat (first | exact H2.le.refl _ | apply le_push | refine le_up ?_ (by assumption))) (bl6_5.wide (Nat.le_refl _) (by omega))) (o6_6.keep (by repeat (first | exact H2.le.refl _ | apply le_push | refine le_up ?_ (by assumption))) (bl6_6.wide (Nat.le_refl _) (by omega))) (o6_8.keep (by repeat (first | exact H2.le.refl _ | apply le_push | refine le_up ?_ (by assumption))) (bl6_8.wide (Nat.le_refl _) (by omega))) (o6_9.keep (by repeat (first | exact H2.le.refl _ | apply le_push | refine le_up ?_ (by assumption))) (bl6_9.wide (Nat.le_refl _) (by omega))) (o6_12.keep (by repeat (first | exact H2.le.refl _ | apply le_push | refine le_up ?_ (by assumption))) (bl6_12.wide (Nat.le_refl _) (by omega))) (o6_13.keep (by repeat (first | exact H2.le.refl _ | apply le_push | refine le_up ?_ (by assumption))) (bl6_13.wide (Nat.le_refl _) (by omega)))) (by omega)) ?_
  rintro _ g9 ⟨l9, ys9, b9, rfl, o9, bl9⟩
  try simp only [hn_push, hn_up] at bl9
  have nn9 := l9.n
  try simp only [hn_push, hn_up] at nn9
  have LL9 : g6.le g9 := H2.le.trans (by repeat (first | exact H2.le.refl _ | apply le_push | refine le_up ?_ (by assumption))) l9
  have ln9 := LL9.n
  replace o4_3 := o4_3.keep LL9 (bl4_3.wide (Nat.le_refl _) (by omega))
  replace o4_4 := o4_4.keep LL9 (bl4_4.wide (Nat.le_refl _) (by omega))
  replace o4_5 := o4_5.keep LL9 (bl4_5.wide (Nat.le_refl _) (by omega))
  replace o4_6 := o4_6.keep LL9 (bl4_6.wide (Nat.le_refl _) (by omega))
  replace o4_8 := o4_8.keep LL9 (bl4_8.wide (Nat.le_refl _) (by omega))
  replace o4_9 := o4_9.keep LL9 (bl4_9.wide (Nat.le_refl _) (by omega))
  replace o4_12 := o4_12.keep LL9 (bl4_12.wide (Nat.le_refl _) (by omega))
  replace o4_13 := o4_13.keep LL9 (bl4_13.wide (Nat.le_refl _) (by omega))
  replace o4_14 := o4_14.keep LL9 (bl4_14.wide (Nat.le_refl _) (by omega))
  replace o4_15 := o4_15.keep LL9 (bl4_15.wide (Nat.le_refl _) (by omega))
  replace o4_16 := o4_16.keep LL9 (bl4_16.wide (Nat.le_refl _) (by omega))
  replace o6_3 := o6_3.keep LL9 (bl6_3.wide (Nat.le_refl _) (by omega))
  replace o6_4 := o6_4.keep LL9 (bl6_4.wide (Nat.le_refl _) (by omega))
  replace o6_5 := o6_5.keep LL9 (bl6_5.wide (Nat.le_refl _) (by omega))
  replace o6_6 := o6_6.keep LL9 (bl6_6.wide (Nat.le_refl _) (by omega))
  replace o6_8 := o6_8.keep LL9 (bl6_8.wide (Nat.le_refl _) (by omega))
  replace o6_9 := o6_9.keep LL9 (bl6_9.wide (Nat.le_refl _) (by omega))
  replace o6_12 := o6_12.keep LL9 (bl6_12.wide (Nat.le_refl _) (by omega))
  replace o6_13 := o6_13.keep LL9 (bl6_13.wide (Nat.le_refl _) (by omega))
  replace row0 := (LL9.2 (hn h .mk) (by omega)).trans row0
  replace row1 := (LL9.2 (hn g4 .mk) (by omega)).trans row1
  have row2 : hg g9 (hn g6 .mk) .mk = some ⟨14, [.raw (.int .i64 m.dim), .raw (.int .i64 m.heads), .raw (.int .i64 m.context), s6_3, s6_4, s6_5, s6_6, .raw (.int .i64 m.head.width), s6_8, s6_9, .raw (.int .i64 m.head.mul), .raw (.int .i64 m.head.shift), s6_12, s6_13]⟩ := (l9.2 (hn g6 .mk) (by simp only [hn_push, hn_up]; omega)).trans (by simp -dsimp -implicitDefEqProofs only [go_sem, rq1, rq2, rq3, rq4, rq5, rq6, rq7, ne5, nf5, ne7, nf7, ne8, nf8, ce4_3, ce4_4, ce4_5, ce4_6, ce4_8, ce4_9, ce4_12, ce4_13, ce4_14, ce4_15, ce4_16, ce6_3, ce6_4, ce6_5, ce6_6, ce6_8, ce6_9, ce6_12, ce6_13, row0, row1, hoo])
  obtain ⟨b9_3, s9_3, b9_4, s9_4, b9_5, s9_5, b9_6, s9_6, b9_8, s9_8, b9_9, s9_9, b9_12, s9_12, b9_13, s9_13, b9_14, s9_14, b9_15, s9_15, b9_16, s9_16, rfl, rfl, o9_3, o9_4, o9_5, o9_6, o9_8, o9_9, o9_12, o9_13, o9_14, o9_15, o9_16⟩ := invEngine o9
  clear o9
  have bl9_3 := bl9.split.1
  have ce9_3 := OT.cell o9_3
  have bl9_4 := bl9.split.2.1.split.1
  have ce9_4 := OT.cell o9_4
  have bl9_5 := bl9.split.2.1.split.2.1.split.1
  have ce9_5 := OT.cell o9_5
  have bl9_6 := bl9.split.2.1.split.2.1.split.2.1.split.1
  have ce9_6 := OT.cell o9_6
  have bl9_8 := bl9.split.2.1.split.2.1.split.2.1.split.2.1.split.1
  have ce9_8 := OT.cell o9_8
  have bl9_9 := bl9.split.2.1.split.2.1.split.2.1.split.2.1.split.2.1.split.1
  have ce9_9 := OT.cell o9_9
  have bl9_12 := bl9.split.2.1.split.2.1.split.2.1.split.2.1.split.2.1.split.2.1.split.1
  have ce9_12 := OT.cell o9_12
  have bl9_13 := bl9.split.2.1.split.2.1.split.2.1.split.2.1.split.2.1.split.2.1.split.2.1.split.1
  have ce9_13 := OT.cell o9_13
  have bl9_14 := bl9.split.2.1.split.2.1.split.2.1.split.2.1.split.2.1.split.2.1.split.2.1.split.2.1.split.1
  have ce9_14 := OT.cell o9_14
  have bl9_15 := bl9.split.2.1.split.2.1.split.2.1.split.2.1.split.2.1.split.2.1.split.2.1.split.2.1.split.2.1.split.1
  have ce9_15 := OT.cell o9_15
  have bl9_16 := bl9.split.2.1.split.2.1.split.2.1.split.2.1.split.2.1.split.2.1.split.2.1.split.2.1.split.2.1.split.2.1
  have ce9_16 := OT.cell o9_16
  have ne10 : ((hn h .mk) == (hn g9 .mk)) = false := by simp; omega
  have nf10 : ((hn g9 .mk) == (hn h .mk)) = false := by simp; omega
  have ne11 : ((hn g4 .mk) == (hn g9 .mk)) = false := by simp; omega
  have nf11 : ((hn g9 .mk) == (hn g4 .mk)) = false := by simp; omega
  have ne12 : ((hn g6 .mk) == (hn g9 .mk)) = false := by simp; omega
  have nf12 : ((hn g9 .mk) == (hn g6 .mk)) = false := by simp; omega
  repeat (first | rw [kz_o] | rw [kz_r0] | simp -dsimp -implicitDefEqProofs only [go_sem, rq1, rq2, rq3, rq4, rq5, rq6, rq7, ne5, nf5, ne7, nf7, ne8, nf8, ce4_3, ce4_4, ce4_5, ce4_6, ce4_8, ce4_9, ce4_12, ce4_13, ce4_14, ce4_15, ce4_16, ce6_3, ce6_4, ce6_5, ce6_6, ce6_8, ce6_9, ce6_12, ce6_13, ce9_3, ce9_4, ce9_5, ce9_6, ce9_8, ce9_9, ce9_12, ce9_13, ce9_14, ce9_15, ce9_16, row0, row1, row2, ne10, nf10, ne11, nf11, ne12, nf12, hoo])
  refine pw_intro (eqEngine_tree (outEngine (c := (newE m p)) (o9_3.keep (by repeat (first | exact H2.le.refl _ | apply le_push | refine le_up ?_ (by assumption))) (bl9_3.wide (Nat.le_refl _) (by omega))) (o9_4.keep (by repeat (first | exact H2.le.refl _ | apply le_push | refine le_up ?_ (by assumption))) (bl9_4.wide (Nat.le_refl _) (by omega))) (o9_5.keep (by repeat (first | exact H2.le.refl _ | apply le_push | refine le_up ?_ (by assumption))) (bl9_5.wide (Nat.le_refl _) (by omega))) (o9_6.keep (by repeat (first | exact H2.le.refl _ | apply le_push | refine le_up ?_ (by assumption))) (bl9_6.wide (Nat.le_refl _) (by omega))) (o9_8.keep (by repeat (first | exact H2.le.refl _ | apply le_push | refine le_up ?_ (by assumption))) (bl9_8.wide (Nat.le_refl _) (by omega))) (o9_9.keep (by repeat (first | exact H2.le.refl _ | apply le_push | refine le_up ?_ (by assumption))) (bl9_9.wide (Nat.le_refl _) (by omega))) (o9_12.keep (by repeat (first | exact H2.le.refl _ | apply le_push | refine le_up ?_ (by assumption))) (bl9_12.wide (Nat.le_refl _) (by omega))) (o9_13.keep (by repeat (first | exact H2.le.refl _ | apply le_push | refine le_up ?_ (by assumption))) (bl9_13.wide (Nat.le_refl _) (by omega))) (o9_14.keep (by repeat (first | exact H2.le.refl _ | apply le_push | refine le_up ?_ (by assumption))) (bl9_14.wide (Nat.le_refl _) (by omega))) (o9_15.keep (by repeat (first | exact H2.le.refl _ | apply le_push | refine le_up ?_ (by assumption))) (bl9_15.wide (Nat.le_refl _) (by omega))) (o9_16.keep (by repeat (first | exact H2.le.refl _ | apply le_push | refine le_up ?_ (by assumption))) (bl9_16.wide (Nat.le_refl _) (by omega)))) (outEngine (c := (newE m p)) (o4_3.keep (by repeat (first | exact H2.le.refl _ | apply le_push | refine le_up ?_ (by assumption))) (bl4_3.wide (Nat.le_refl _) (by omega))) (o4_4.keep (by repeat (first | exact H2.le.refl _ | apply le_push | refine le_up ?_ (by assumption))) (bl4_4.wide (Nat.le_refl _) (by omega))) (o4_5.keep (by repeat (first | exact H2.le.refl _ | apply le_push | refine le_up ?_ (by assumption))) (bl4_5.wide (Nat.le_refl _) (by omega))) (o4_6.keep (by repeat (first | exact H2.le.refl _ | apply le_push | refine le_up ?_ (by assumption))) (bl4_6.wide (Nat.le_refl _) (by omega))) (o4_8.keep (by repeat (first | exact H2.le.refl _ | apply le_push | refine le_up ?_ (by assumption))) (bl4_8.wide (Nat.le_refl _) (by omega))) (o4_9.keep (by repeat (first | exact H2.le.refl _ | apply le_push | refine le_up ?_ (by assumption))) (bl4_9.wide (Nat.le_refl _) (by omega))) (o4_12.keep (by repeat (first | exact H2.le.refl _ | apply le_push | refine le_up ?_ (by assumption))) (bl4_12.wide (Nat.le_refl _) (by omega))) (o4_13.keep (by repeat (first | exact H2.le.refl _ | apply le_push | refine le_up ?_ (by assumption))) (bl4_13.wide (Nat.le_refl _) (by omega))) (o4_14.keep (by repeat (first | exact H2.le.refl _ | apply le_push | refine le_up ?_ (by assumption))) (bl4_14.wide (Nat.le_refl _) (by omega))) (o4_15.keep (by repeat (first | exact H2.le.refl _ | apply le_push | refine le_up ?_ (by assumption))) (bl4_15.wide (Nat.le_refl _) (by omega))) (o4_16.keep (by repeat (first | exact H2.le.refl _ | apply le_push | refine le_up ?_ (by assumption))) (bl4_16.wide (Nat.le_refl _) (by omega)))) hfe) ?_
  rintro _ n13 hn13 rfl
  have hm13 := hn13
  try simp only [hn_push, hn_up] at hm13
  repeat (first | rw [kz_o] | rw [kz_r0] | simp -dsimp -implicitDefEqProofs only [go_sem, rq1, rq2, rq3, rq4, rq5, rq6, rq7, ne5, nf5, ne7, nf7, ne8, nf8, ne10, nf10, ne11, nf11, ne12, nf12, ce4_3, ce4_4, ce4_5, ce4_6, ce4_8, ce4_9, ce4_12, ce4_13, ce4_14, ce4_15, ce4_16, ce6_3, ce6_4, ce6_5, ce6_6, ce6_8, ce6_9, ce6_12, ce6_13, ce9_3, ce9_4, ce9_5, ce9_6, ce9_8, ce9_9, ce9_12, ce9_13, ce9_14, ce9_15, ce9_16, row0, row1, row2, hoo])
  refine dq_intro [(0, []), (1, []), (2, [0]), (3, []), (4, [])] (by kernel_rfl) ?_
  repeat (first | rw [kz_o] | rw [kz_r0] | simp -dsimp -implicitDefEqProofs only [go_sem, rq1, rq2, rq3, rq4, rq5, rq6, rq7, ne5, nf5, ne7, nf7, ne8, nf8, ne10, nf10, ne11, nf11, ne12, nf12, ce4_3, ce4_4, ce4_5, ce4_6, ce4_8, ce4_9, ce4_12, ce4_13, ce4_14, ce4_15, ce4_16, ce6_3, ce6_4, ce6_5, ce6_6, ce6_8, ce6_9, ce6_12, ce6_13, ce9_3, ce9_4, ce9_5, ce9_6, ce9_8, ce9_9, ce9_12, ce9_13, ce9_14, ce9_15, ce9_16, row0, row1, row2, hoo])
  refine wz_intro (toModel_ok (by omega)) ?_
  rintro _ g14 ⟨l14, ys14, b14, rfl, o14, bl14⟩
  try simp only [hn_push, hn_up] at bl14
  have nn14 := l14.n
  try simp only [hn_push, hn_up] at nn14
  have LL14 : g9.le g14 := H2.le.trans (by repeat (first | exact H2.le.refl _ | apply le_push | refine le_up ?_ (by assumption))) l14
  have ln14 := LL14.n
  replace o4_3 := o4_3.keep LL14 (bl4_3.wide (Nat.le_refl _) (by omega))
  replace o4_4 := o4_4.keep LL14 (bl4_4.wide (Nat.le_refl _) (by omega))
  replace o4_5 := o4_5.keep LL14 (bl4_5.wide (Nat.le_refl _) (by omega))
  replace o4_6 := o4_6.keep LL14 (bl4_6.wide (Nat.le_refl _) (by omega))
  replace o4_8 := o4_8.keep LL14 (bl4_8.wide (Nat.le_refl _) (by omega))
  replace o4_9 := o4_9.keep LL14 (bl4_9.wide (Nat.le_refl _) (by omega))
  replace o4_12 := o4_12.keep LL14 (bl4_12.wide (Nat.le_refl _) (by omega))
  replace o4_13 := o4_13.keep LL14 (bl4_13.wide (Nat.le_refl _) (by omega))
  replace o4_14 := o4_14.keep LL14 (bl4_14.wide (Nat.le_refl _) (by omega))
  replace o4_15 := o4_15.keep LL14 (bl4_15.wide (Nat.le_refl _) (by omega))
  replace o4_16 := o4_16.keep LL14 (bl4_16.wide (Nat.le_refl _) (by omega))
  replace o6_3 := o6_3.keep LL14 (bl6_3.wide (Nat.le_refl _) (by omega))
  replace o6_4 := o6_4.keep LL14 (bl6_4.wide (Nat.le_refl _) (by omega))
  replace o6_5 := o6_5.keep LL14 (bl6_5.wide (Nat.le_refl _) (by omega))
  replace o6_6 := o6_6.keep LL14 (bl6_6.wide (Nat.le_refl _) (by omega))
  replace o6_8 := o6_8.keep LL14 (bl6_8.wide (Nat.le_refl _) (by omega))
  replace o6_9 := o6_9.keep LL14 (bl6_9.wide (Nat.le_refl _) (by omega))
  replace o6_12 := o6_12.keep LL14 (bl6_12.wide (Nat.le_refl _) (by omega))
  replace o6_13 := o6_13.keep LL14 (bl6_13.wide (Nat.le_refl _) (by omega))
  replace o9_3 := o9_3.keep LL14 (bl9_3.wide (Nat.le_refl _) (by omega))
  replace o9_4 := o9_4.keep LL14 (bl9_4.wide (Nat.le_refl _) (by omega))
  replace o9_5 := o9_5.keep LL14 (bl9_5.wide (Nat.le_refl _) (by omega))
  replace o9_6 := o9_6.keep LL14 (bl9_6.wide (Nat.le_refl _) (by omega))
  replace o9_8 := o9_8.keep LL14 (bl9_8.wide (Nat.le_refl _) (by omega))
  replace o9_9 := o9_9.keep LL14 (bl9_9.wide (Nat.le_refl _) (by omega))
  replace o9_12 := o9_12.keep LL14 (bl9_12.wide (Nat.le_refl _) (by omega))
  replace o9_13 := o9_13.keep LL14 (bl9_13.wide (Nat.le_refl _) (by omega))
  replace o9_14 := o9_14.keep LL14 (bl9_14.wide (Nat.le_refl _) (by omega))
  replace o9_15 := o9_15.keep LL14 (bl9_15.wide (Nat.le_refl _) (by omega))
  replace o9_16 := o9_16.keep LL14 (bl9_16.wide (Nat.le_refl _) (by omega))
  replace row0 := (LL14.2 (hn h .mk) (by omega)).trans row0
  replace row1 := (LL14.2 (hn g4 .mk) (by omega)).trans row1
  replace row2 := (LL14.2 (hn g6 .mk) (by omega)).trans row2
  have row3 : hg g14 (hn g9 .mk) .mk = some ⟨17, [.raw (.int .i64 (newE m p).model.dim), .raw (.int .i64 (newE m p).model.heads), .raw (.int .i64 (newE m p).model.context), s9_3, s9_4, s9_5, s9_6, .raw (.int .i64 (newE m p).model.head.width), s9_8, s9_9, .raw (.int .i64 (newE m p).model.head.mul), .raw (.int .i64 (newE m p).model.head.shift), s9_12, s9_13, s9_14, s9_15, s9_16]⟩ := (l14.2 (hn g9 .mk) (by simp only [hn_push, hn_up]; omega)).trans (by simp -dsimp -implicitDefEqProofs only [go_sem, rq1, rq2, rq3, rq4, rq5, rq6, rq7, ne5, nf5, ne7, nf7, ne8, nf8, ne10, nf10, ne11, nf11, ne12, nf12, ce4_3, ce4_4, ce4_5, ce4_6, ce4_8, ce4_9, ce4_12, ce4_13, ce4_14, ce4_15, ce4_16, ce6_3, ce6_4, ce6_5, ce6_6, ce6_8, ce6_9, ce6_12, ce6_13, ce9_3, ce9_4, ce9_5, ce9_6, ce9_8, ce9_9, ce9_12, ce9_13, ce9_14, ce9_15, ce9_16, row0, row1, row2, hoo])
  obtain ⟨b14_3, s14_3, b14_4, s14_4, b14_5, s14_5, b14_6, s14_6, b14_8, s14_8, b14_9, s14_9, b14_12, s14_12, b14_13, s14_13, rfl, rfl, o14_3, o14_4, o14_5, o14_6, o14_8, o14_9, o14_12, o14_13⟩ := invModel o14
  clear o14
  have bl14_3 := bl14.split.1
  have ce14_3 := OT.cell o14_3
  have bl14_4 := bl14.split.2.1.split.1
  have ce14_4 := OT.cell o14_4
  have bl14_5 := bl14.split.2.1.split.2.1.split.1
  have ce14_5 := OT.cell o14_5
  have bl14_6 := bl14.split.2.1.split.2.1.split.2.1.split.1
  have ce14_6 := OT.cell o14_6
  have bl14_8 := bl14.split.2.1.split.2.1.split.2.1.split.2.1.split.1
  have ce14_8 := OT.cell o14_8
  have bl14_9 := bl14.split.2.1.split.2.1.split.2.1.split.2.1.split.2.1.split.1
  have ce14_9 := OT.cell o14_9
  have bl14_12 := bl14.split.2.1.split.2.1.split.2.1.split.2.1.split.2.1.split.2.1.split.1
  have ce14_12 := OT.cell o14_12
  have bl14_13 := bl14.split.2.1.split.2.1.split.2.1.split.2.1.split.2.1.split.2.1.split.2.1
  have ce14_13 := OT.cell o14_13
  rw [kz_r]
  refine ⟨by simp -dsimp -implicitDefEqProofs only [go_sem, rq1, rq2, rq3, rq4, rq5, rq6, rq7, ne5, nf5, ne7, nf7, ne8, nf8, ne10, nf10, ne11, nf11, ne12, nf12, ce4_3, ce4_4, ce4_5, ce4_6, ce4_8, ce4_9, ce4_12, ce4_13, ce4_14, ce4_15, ce4_16, ce6_3, ce6_4, ce6_5, ce6_6, ce6_8, ce6_9, ce6_12, ce6_13, ce9_3, ce9_4, ce9_5, ce9_6, ce9_8, ce9_9, ce9_12, ce9_13, ce9_14, ce9_15, ce9_16, ce14_3, ce14_4, ce14_5, ce14_6, ce14_8, ce14_9, ce14_12, ce14_13, row0, row1, row2, row3, hoo], ?_⟩
  repeat (first | rw [kz_o] | rw [kz_r0] | simp -dsimp -implicitDefEqProofs only [go_sem, rq1, rq2, rq3, rq4, rq5, rq6, rq7, ne5, nf5, ne7, nf7, ne8, nf8, ne10, nf10, ne11, nf11, ne12, nf12, ce4_3, ce4_4, ce4_5, ce4_6, ce4_8, ce4_9, ce4_12, ce4_13, ce4_14, ce4_15, ce4_16, ce6_3, ce6_4, ce6_5, ce6_6, ce6_8, ce6_9, ce6_12, ce6_13, ce9_3, ce9_4, ce9_5, ce9_6, ce9_8, ce9_9, ce9_12, ce9_13, ce9_14, ce9_15, ce9_16, ce14_3, ce14_4, ce14_5, ce14_6, ce14_8, ce14_9, ce14_12, ce14_13, row0, row1, row2, row3, hoo])
  refine pw_intro (eqModel_tree (outModel (c := m) (o6_3.keep (by repeat (first | exact H2.le.refl _ | apply le_push | refine le_up ?_ (by assumption))) (bl6_3.wide (Nat.le_refl _) (by omega))) (o6_4.keep (by repeat (first | exact H2.le.refl _ | apply le_push | refine le_up ?_ (by assumption))) (bl6_4.wide (Nat.le_refl _) (by omega))) (o6_5.keep (by repeat (first | exact H2.le.refl _ | apply le_push | refine le_up ?_ (by assumption))) (bl6_5.wide (Nat.le_refl _) (by omega))) (o6_6.keep (by repeat (first | exact H2.le.refl _ | apply le_push | refine le_up ?_ (by assumption))) (bl6_6.wide (Nat.le_refl _) (by omega))) (o6_8.keep (by repeat (first | exact H2.le.refl _ | apply le_push | refine le_up ?_ (by assumption))) (bl6_8.wide (Nat.le_refl _) (by omega))) (o6_9.keep (by repeat (first | exact H2.le.refl _ | apply le_push | refine le_up ?_ (by assumption))) (bl6_9.wide (Nat.le_refl _) (by omega))) (o6_12.keep (by repeat (first | exact H2.le.refl _ | apply le_push | refine le_up ?_ (by assumption))) (bl6_12.wide (Nat.le_refl _) (by omega))) (o6_13.keep (by repeat (first | exact H2.le.refl _ | apply le_push | refine le_up ?_ (by assumption))) (bl6_13.wide (Nat.le_refl _) (by omega)))) (outModel (c := m) (o14_3.keep (by repeat (first | exact H2.le.refl _ | apply le_push | refine le_up ?_ (by assumption))) (bl14_3.wide (Nat.le_refl _) (by omega))) (o14_4.keep (by repeat (first | exact H2.le.refl _ | apply le_push | refine le_up ?_ (by assumption))) (bl14_4.wide (Nat.le_refl _) (by omega))) (o14_5.keep (by repeat (first | exact H2.le.refl _ | apply le_push | refine le_up ?_ (by assumption))) (bl14_5.wide (Nat.le_refl _) (by omega))) (o14_6.keep (by repeat (first | exact H2.le.refl _ | apply le_push | refine le_up ?_ (by assumption))) (bl14_6.wide (Nat.le_refl _) (by omega))) (o14_8.keep (by repeat (first | exact H2.le.refl _ | apply le_push | refine le_up ?_ (by assumption))) (bl14_8.wide (Nat.le_refl _) (by omega))) (o14_9.keep (by repeat (first | exact H2.le.refl _ | apply le_push | refine le_up ?_ (by assumption))) (bl14_9.wide (Nat.le_refl _) (by omega))) (o14_12.keep (by repeat (first | exact H2.le.refl _ | apply le_push | refine le_up ?_ (by assumption))) (bl14_12.wide (Nat.le_refl _) (by omega))) (o14_13.keep (by repeat (first | exact H2.le.refl _ | apply le_push | refine le_up ?_ (by assumption))) (bl14_13.wide (Nat.le_refl _) (by omega)))) hf0) ?_
  rintro _ n15 hn15 rfl
  have hm15 := hn15
  try simp only [hn_push, hn_up] at hm15
  repeat (first | rw [kz_o] | rw [kz_r0] | simp -dsimp -implicitDefEqProofs only [go_sem, rq1, rq2, rq3, rq4, rq5, rq6, rq7, ne5, nf5, ne7, nf7, ne8, nf8, ne10, nf10, ne11, nf11, ne12, nf12, ce4_3, ce4_4, ce4_5, ce4_6, ce4_8, ce4_9, ce4_12, ce4_13, ce4_14, ce4_15, ce4_16, ce6_3, ce6_4, ce6_5, ce6_6, ce6_8, ce6_9, ce6_12, ce6_13, ce9_3, ce9_4, ce9_5, ce9_6, ce9_8, ce9_9, ce9_12, ce9_13, ce9_14, ce9_15, ce9_16, row0, row1, row2, row3, hoo])
  refine wz_intro (markModel_ok (c := m) (o6_3.keep (by repeat (first | exact H2.le.refl _ | apply le_push | refine le_up ?_ (by assumption))) (bl6_3.wide (Nat.le_refl _) (by omega))) (o6_4.keep (by repeat (first | exact H2.le.refl _ | apply le_push | refine le_up ?_ (by assumption))) (bl6_4.wide (Nat.le_refl _) (by omega))) (o6_5.keep (by repeat (first | exact H2.le.refl _ | apply le_push | refine le_up ?_ (by assumption))) (bl6_5.wide (Nat.le_refl _) (by omega))) (o6_6.keep (by repeat (first | exact H2.le.refl _ | apply le_push | refine le_up ?_ (by assumption))) (bl6_6.wide (Nat.le_refl _) (by omega))) (o6_8.keep (by repeat (first | exact H2.le.refl _ | apply le_push | refine le_up ?_ (by assumption))) (bl6_8.wide (Nat.le_refl _) (by omega))) (o6_9.keep (by repeat (first | exact H2.le.refl _ | apply le_push | refine le_up ?_ (by assumption))) (bl6_9.wide (Nat.le_refl _) (by omega))) (o6_12.keep (by repeat (first | exact H2.le.refl _ | apply le_push | refine le_up ?_ (by assumption))) (bl6_12.wide (Nat.le_refl _) (by omega))) (o6_13.keep (by repeat (first | exact H2.le.refl _ | apply le_push | refine le_up ?_ (by assumption))) (bl6_13.wide (Nat.le_refl _) (by omega))) (bl6.wide (Nat.le_refl _) (by first | omega | (simp only [hn_push, hn_up]; omega))) ⟨by omega, by omega⟩) ?_
  rintro _ g16 ⟨k16, z16_3, z16_4, z16_5, z16_6, z16_8, z16_9, z16_12, z16_13, rfl, lo16, hi16, ⟨o6_3', o6_4', o6_5', o6_6', o6_8', o6_9', o6_12', o6_13'⟩, hd16, nn16, fr16⟩
  try simp only [hn_push, hn_up] at nn16
  replace o4_3 := OT.frame (g' := g16) (o4_3.keep (by repeat (first | exact H2.le.refl _ | apply le_push | refine le_up ?_ (by assumption))) (bl4_3.wide (Nat.le_refl _) (by omega))) fun b hb => fr16 b (by have := (bl4_3.2 b hb).2; first | omega | (simp only [hn_push, hn_up]; omega)) (fun hx => by have := bl4.2 b (by simp [hb]); have := bl6.2 b hx; omega)
  replace o4_4 := OT.frame (g' := g16) (o4_4.keep (by repeat (first | exact H2.le.refl _ | apply le_push | refine le_up ?_ (by assumption))) (bl4_4.wide (Nat.le_refl _) (by omega))) fun b hb => fr16 b (by have := (bl4_4.2 b hb).2; first | omega | (simp only [hn_push, hn_up]; omega)) (fun hx => by have := bl4.2 b (by simp [hb]); have := bl6.2 b hx; omega)
  replace o4_5 := OT.frame (g' := g16) (o4_5.keep (by repeat (first | exact H2.le.refl _ | apply le_push | refine le_up ?_ (by assumption))) (bl4_5.wide (Nat.le_refl _) (by omega))) fun b hb => fr16 b (by have := (bl4_5.2 b hb).2; first | omega | (simp only [hn_push, hn_up]; omega)) (fun hx => by have := bl4.2 b (by simp [hb]); have := bl6.2 b hx; omega)
  replace o4_6 := OT.frame (g' := g16) (o4_6.keep (by repeat (first | exact H2.le.refl _ | apply le_push | refine le_up ?_ (by assumption))) (bl4_6.wide (Nat.le_refl _) (by omega))) fun b hb => fr16 b (by have := (bl4_6.2 b hb).2; first | omega | (simp only [hn_push, hn_up]; omega)) (fun hx => by have := bl4.2 b (by simp [hb]); have := bl6.2 b hx; omega)
  replace o4_8 := OT.frame (g' := g16) (o4_8.keep (by repeat (first | exact H2.le.refl _ | apply le_push | refine le_up ?_ (by assumption))) (bl4_8.wide (Nat.le_refl _) (by omega))) fun b hb => fr16 b (by have := (bl4_8.2 b hb).2; first | omega | (simp only [hn_push, hn_up]; omega)) (fun hx => by have := bl4.2 b (by simp [hb]); have := bl6.2 b hx; omega)
  replace o4_9 := OT.frame (g' := g16) (o4_9.keep (by repeat (first | exact H2.le.refl _ | apply le_push | refine le_up ?_ (by assumption))) (bl4_9.wide (Nat.le_refl _) (by omega))) fun b hb => fr16 b (by have := (bl4_9.2 b hb).2; first | omega | (simp only [hn_push, hn_up]; omega)) (fun hx => by have := bl4.2 b (by simp [hb]); have := bl6.2 b hx; omega)
  replace o4_12 := OT.frame (g' := g16) (o4_12.keep (by repeat (first | exact H2.le.refl _ | apply le_push | refine le_up ?_ (by assumption))) (bl4_12.wide (Nat.le_refl _) (by omega))) fun b hb => fr16 b (by have := (bl4_12.2 b hb).2; first | omega | (simp only [hn_push, hn_up]; omega)) (fun hx => by have := bl4.2 b (by simp [hb]); have := bl6.2 b hx; omega)
  replace o4_13 := OT.frame (g' := g16) (o4_13.keep (by repeat (first | exact H2.le.refl _ | apply le_push | refine le_up ?_ (by assumption))) (bl4_13.wide (Nat.le_refl _) (by omega))) fun b hb => fr16 b (by have := (bl4_13.2 b hb).2; first | omega | (simp only [hn_push, hn_up]; omega)) (fun hx => by have := bl4.2 b (by simp [hb]); have := bl6.2 b hx; omega)
  replace o4_14 := OT.frame (g' := g16) (o4_14.keep (by repeat (first | exact H2.le.refl _ | apply le_push | refine le_up ?_ (by assumption))) (bl4_14.wide (Nat.le_refl _) (by omega))) fun b hb => fr16 b (by have := (bl4_14.2 b hb).2; first | omega | (simp only [hn_push, hn_up]; omega)) (fun hx => by have := bl4.2 b (by simp [hb]); have := bl6.2 b hx; omega)
  replace o4_15 := OT.frame (g' := g16) (o4_15.keep (by repeat (first | exact H2.le.refl _ | apply le_push | refine le_up ?_ (by assumption))) (bl4_15.wide (Nat.le_refl _) (by omega))) fun b hb => fr16 b (by have := (bl4_15.2 b hb).2; first | omega | (simp only [hn_push, hn_up]; omega)) (fun hx => by have := bl4.2 b (by simp [hb]); have := bl6.2 b hx; omega)
  replace o4_16 := OT.frame (g' := g16) (o4_16.keep (by repeat (first | exact H2.le.refl _ | apply le_push | refine le_up ?_ (by assumption))) (bl4_16.wide (Nat.le_refl _) (by omega))) fun b hb => fr16 b (by have := (bl4_16.2 b hb).2; first | omega | (simp only [hn_push, hn_up]; omega)) (fun hx => by have := bl4.2 b (by simp [hb]); have := bl6.2 b hx; omega)
  replace o9_3 := OT.frame (g' := g16) (o9_3.keep (by repeat (first | exact H2.le.refl _ | apply le_push | refine le_up ?_ (by assumption))) (bl9_3.wide (Nat.le_refl _) (by omega))) fun b hb => fr16 b (by have := (bl9_3.2 b hb).2; first | omega | (simp only [hn_push, hn_up]; omega)) (fun hx => by have := bl9.2 b (by simp [hb]); have := bl6.2 b hx; omega)
  replace o9_4 := OT.frame (g' := g16) (o9_4.keep (by repeat (first | exact H2.le.refl _ | apply le_push | refine le_up ?_ (by assumption))) (bl9_4.wide (Nat.le_refl _) (by omega))) fun b hb => fr16 b (by have := (bl9_4.2 b hb).2; first | omega | (simp only [hn_push, hn_up]; omega)) (fun hx => by have := bl9.2 b (by simp [hb]); have := bl6.2 b hx; omega)
  replace o9_5 := OT.frame (g' := g16) (o9_5.keep (by repeat (first | exact H2.le.refl _ | apply le_push | refine le_up ?_ (by assumption))) (bl9_5.wide (Nat.le_refl _) (by omega))) fun b hb => fr16 b (by have := (bl9_5.2 b hb).2; first | omega | (simp only [hn_push, hn_up]; omega)) (fun hx => by have := bl9.2 b (by simp [hb]); have := bl6.2 b hx; omega)
  replace o9_6 := OT.frame (g' := g16) (o9_6.keep (by repeat (first | exact H2.le.refl _ | apply le_push | refine le_up ?_ (by assumption))) (bl9_6.wide (Nat.le_refl _) (by omega))) fun b hb => fr16 b (by have := (bl9_6.2 b hb).2; first | omega | (simp only [hn_push, hn_up]; omega)) (fun hx => by have := bl9.2 b (by simp [hb]); have := bl6.2 b hx; omega)
  replace o9_8 := OT.frame (g' := g16) (o9_8.keep (by repeat (first | exact H2.le.refl _ | apply le_push | refine le_up ?_ (by assumption))) (bl9_8.wide (Nat.le_refl _) (by omega))) fun b hb => fr16 b (by have := (bl9_8.2 b hb).2; first | omega | (simp only [hn_push, hn_up]; omega)) (fun hx => by have := bl9.2 b (by simp [hb]); have := bl6.2 b hx; omega)
  replace o9_9 := OT.frame (g' := g16) (o9_9.keep (by repeat (first | exact H2.le.refl _ | apply le_push | refine le_up ?_ (by assumption))) (bl9_9.wide (Nat.le_refl _) (by omega))) fun b hb => fr16 b (by have := (bl9_9.2 b hb).2; first | omega | (simp only [hn_push, hn_up]; omega)) (fun hx => by have := bl9.2 b (by simp [hb]); have := bl6.2 b hx; omega)
  replace o9_12 := OT.frame (g' := g16) (o9_12.keep (by repeat (first | exact H2.le.refl _ | apply le_push | refine le_up ?_ (by assumption))) (bl9_12.wide (Nat.le_refl _) (by omega))) fun b hb => fr16 b (by have := (bl9_12.2 b hb).2; first | omega | (simp only [hn_push, hn_up]; omega)) (fun hx => by have := bl9.2 b (by simp [hb]); have := bl6.2 b hx; omega)
  replace o9_13 := OT.frame (g' := g16) (o9_13.keep (by repeat (first | exact H2.le.refl _ | apply le_push | refine le_up ?_ (by assumption))) (bl9_13.wide (Nat.le_refl _) (by omega))) fun b hb => fr16 b (by have := (bl9_13.2 b hb).2; first | omega | (simp only [hn_push, hn_up]; omega)) (fun hx => by have := bl9.2 b (by simp [hb]); have := bl6.2 b hx; omega)
  replace o9_14 := OT.frame (g' := g16) (o9_14.keep (by repeat (first | exact H2.le.refl _ | apply le_push | refine le_up ?_ (by assumption))) (bl9_14.wide (Nat.le_refl _) (by omega))) fun b hb => fr16 b (by have := (bl9_14.2 b hb).2; first | omega | (simp only [hn_push, hn_up]; omega)) (fun hx => by have := bl9.2 b (by simp [hb]); have := bl6.2 b hx; omega)
  replace o9_15 := OT.frame (g' := g16) (o9_15.keep (by repeat (first | exact H2.le.refl _ | apply le_push | refine le_up ?_ (by assumption))) (bl9_15.wide (Nat.le_refl _) (by omega))) fun b hb => fr16 b (by have := (bl9_15.2 b hb).2; first | omega | (simp only [hn_push, hn_up]; omega)) (fun hx => by have := bl9.2 b (by simp [hb]); have := bl6.2 b hx; omega)
  replace o9_16 := OT.frame (g' := g16) (o9_16.keep (by repeat (first | exact H2.le.refl _ | apply le_push | refine le_up ?_ (by assumption))) (bl9_16.wide (Nat.le_refl _) (by omega))) fun b hb => fr16 b (by have := (bl9_16.2 b hb).2; first | omega | (simp only [hn_push, hn_up]; omega)) (fun hx => by have := bl9.2 b (by simp [hb]); have := bl6.2 b hx; omega)
  replace o6_3 := o6_3'
  replace o6_4 := o6_4'
  replace o6_5 := o6_5'
  replace o6_6 := o6_6'
  replace o6_8 := o6_8'
  replace o6_9 := o6_9'
  replace o6_12 := o6_12'
  replace o6_13 := o6_13'
  replace row0 := (show hg g16 (hn h .mk) .mk = hg g14 (hn h .mk) .mk from (show hg g16 (hn h .mk) .mk = hg _ (hn h .mk) .mk from fr16 (hn h .mk) (by first | omega | (simp only [hn_push, hn_up]; omega)) (fun hx => by have := bl6.2 _ hx; omega)).trans (by first | rfl | simp -dsimp -implicitDefEqProofs only [go_sem, rq1, rq2, rq3, rq4, rq5, rq6, rq7, ne5, nf5, ne7, nf7, ne8, nf8, ne10, nf10, ne11, nf11, ne12, nf12, hoo])).trans row0
  replace row1 := (show hg g16 (hn g4 .mk) .mk = hg g14 (hn g4 .mk) .mk from (show hg g16 (hn g4 .mk) .mk = hg _ (hn g4 .mk) .mk from fr16 (hn g4 .mk) (by first | omega | (simp only [hn_push, hn_up]; omega)) (fun hx => by have := bl6.2 _ hx; omega)).trans (by first | rfl | simp -dsimp -implicitDefEqProofs only [go_sem, rq1, rq2, rq3, rq4, rq5, rq6, rq7, ne5, nf5, ne7, nf7, ne8, nf8, ne10, nf10, ne11, nf11, ne12, nf12, hoo])).trans row1
  replace row2 := (show hg g16 (hn g6 .mk) .mk = hg g14 (hn g6 .mk) .mk from (show hg g16 (hn g6 .mk) .mk = hg _ (hn g6 .mk) .mk from fr16 (hn g6 .mk) (by first | omega | (simp only [hn_push, hn_up]; omega)) (fun hx => by have := bl6.2 _ hx; omega)).trans (by first | rfl | simp -dsimp -implicitDefEqProofs only [go_sem, rq1, rq2, rq3, rq4, rq5, rq6, rq7, ne5, nf5, ne7, nf7, ne8, nf8, ne10, nf10, ne11, nf11, ne12, nf12, hoo])).trans row2
  replace row3 := (show hg g16 (hn g9 .mk) .mk = hg g14 (hn g9 .mk) .mk from (show hg g16 (hn g9 .mk) .mk = hg _ (hn g9 .mk) .mk from fr16 (hn g9 .mk) (by first | omega | (simp only [hn_push, hn_up]; omega)) (fun hx => by have := bl6.2 _ hx; omega)).trans (by first | rfl | simp -dsimp -implicitDefEqProofs only [go_sem, rq1, rq2, rq3, rq4, rq5, rq6, rq7, ne5, nf5, ne7, nf7, ne8, nf8, ne10, nf10, ne11, nf11, ne12, nf12, hoo])).trans row3
  have kp16 : 0 ≤ k16 := by omega
  have kq16 : ¬ k16 < 0 := by omega
  repeat (first | rw [kz_o] | rw [kz_r0] | simp -dsimp -implicitDefEqProofs only [go_sem, rq1, rq2, rq3, rq4, rq5, rq6, rq7, ne5, nf5, ne7, nf7, ne8, nf8, ne10, nf10, ne11, nf11, ne12, nf12, kq16, ce4_3, ce4_4, ce4_5, ce4_6, ce4_8, ce4_9, ce4_12, ce4_13, ce4_14, ce4_15, ce4_16, ce6_3, ce6_4, ce6_5, ce6_6, ce6_8, ce6_9, ce6_12, ce6_13, ce9_3, ce9_4, ce9_5, ce9_6, ce9_8, ce9_9, ce9_12, ce9_13, ce9_14, ce9_15, ce9_16, row0, row1, row2, row3, hoo])
  refine pw_intro (eqEngine_tree (outEngine (c := (newE m p)) (o9_3.keep (by repeat (first | exact H2.le.refl _ | apply le_push | refine le_up ?_ (by assumption))) (bl9_3.wide (Nat.le_refl _) (by omega))) (o9_4.keep (by repeat (first | exact H2.le.refl _ | apply le_push | refine le_up ?_ (by assumption))) (bl9_4.wide (Nat.le_refl _) (by omega))) (o9_5.keep (by repeat (first | exact H2.le.refl _ | apply le_push | refine le_up ?_ (by assumption))) (bl9_5.wide (Nat.le_refl _) (by omega))) (o9_6.keep (by repeat (first | exact H2.le.refl _ | apply le_push | refine le_up ?_ (by assumption))) (bl9_6.wide (Nat.le_refl _) (by omega))) (o9_8.keep (by repeat (first | exact H2.le.refl _ | apply le_push | refine le_up ?_ (by assumption))) (bl9_8.wide (Nat.le_refl _) (by omega))) (o9_9.keep (by repeat (first | exact H2.le.refl _ | apply le_push | refine le_up ?_ (by assumption))) (bl9_9.wide (Nat.le_refl _) (by omega))) (o9_12.keep (by repeat (first | exact H2.le.refl _ | apply le_push | refine le_up ?_ (by assumption))) (bl9_12.wide (Nat.le_refl _) (by omega))) (o9_13.keep (by repeat (first | exact H2.le.refl _ | apply le_push | refine le_up ?_ (by assumption))) (bl9_13.wide (Nat.le_refl _) (by omega))) (o9_14.keep (by repeat (first | exact H2.le.refl _ | apply le_push | refine le_up ?_ (by assumption))) (bl9_14.wide (Nat.le_refl _) (by omega))) (o9_15.keep (by repeat (first | exact H2.le.refl _ | apply le_push | refine le_up ?_ (by assumption))) (bl9_15.wide (Nat.le_refl _) (by omega))) (o9_16.keep (by repeat (first | exact H2.le.refl _ | apply le_push | refine le_up ?_ (by assumption))) (bl9_16.wide (Nat.le_refl _) (by omega)))) (outEngine (c := (newE m p)) (o4_3.keep (by repeat (first | exact H2.le.refl _ | apply le_push | refine le_up ?_ (by assumption))) (bl4_3.wide (Nat.le_refl _) (by omega))) (o4_4.keep (by repeat (first | exact H2.le.refl _ | apply le_push | refine le_up ?_ (by assumption))) (bl4_4.wide (Nat.le_refl _) (by omega))) (o4_5.keep (by repeat (first | exact H2.le.refl _ | apply le_push | refine le_up ?_ (by assumption))) (bl4_5.wide (Nat.le_refl _) (by omega))) (o4_6.keep (by repeat (first | exact H2.le.refl _ | apply le_push | refine le_up ?_ (by assumption))) (bl4_6.wide (Nat.le_refl _) (by omega))) (o4_8.keep (by repeat (first | exact H2.le.refl _ | apply le_push | refine le_up ?_ (by assumption))) (bl4_8.wide (Nat.le_refl _) (by omega))) (o4_9.keep (by repeat (first | exact H2.le.refl _ | apply le_push | refine le_up ?_ (by assumption))) (bl4_9.wide (Nat.le_refl _) (by omega))) (o4_12.keep (by repeat (first | exact H2.le.refl _ | apply le_push | refine le_up ?_ (by assumption))) (bl4_12.wide (Nat.le_refl _) (by omega))) (o4_13.keep (by repeat (first | exact H2.le.refl _ | apply le_push | refine le_up ?_ (by assumption))) (bl4_13.wide (Nat.le_refl _) (by omega))) (o4_14.keep (by repeat (first | exact H2.le.refl _ | apply le_push | refine le_up ?_ (by assumption))) (bl4_14.wide (Nat.le_refl _) (by omega))) (o4_15.keep (by repeat (first | exact H2.le.refl _ | apply le_push | refine le_up ?_ (by assumption))) (bl4_15.wide (Nat.le_refl _) (by omega))) (o4_16.keep (by repeat (first | exact H2.le.refl _ | apply le_push | refine le_up ?_ (by assumption))) (bl4_16.wide (Nat.le_refl _) (by omega)))) hfe) ?_
  rintro _ n17 hn17 rfl
  have hm17 := hn17
  try simp only [hn_push, hn_up] at hm17
  repeat (first | rw [kz_o] | rw [kz_r0] | simp -dsimp -implicitDefEqProofs only [go_sem, rq1, rq2, rq3, rq4, rq5, rq6, rq7, ne5, nf5, ne7, nf7, ne8, nf8, ne10, nf10, ne11, nf11, ne12, nf12, kq16, ce4_3, ce4_4, ce4_5, ce4_6, ce4_8, ce4_9, ce4_12, ce4_13, ce4_14, ce4_15, ce4_16, ce6_3, ce6_4, ce6_5, ce6_6, ce6_8, ce6_9, ce6_12, ce6_13, ce9_3, ce9_4, ce9_5, ce9_6, ce9_8, ce9_9, ce9_12, ce9_13, ce9_14, ce9_15, ce9_16, row0, row1, row2, row3, hoo])
  refine wz_intro (markEngine_ok (c := (newE m p)) (o9_3.keep (by repeat (first | exact H2.le.refl _ | apply le_push | refine le_up ?_ (by assumption))) (bl9_3.wide (Nat.le_refl _) (by omega))) (o9_4.keep (by repeat (first | exact H2.le.refl _ | apply le_push | refine le_up ?_ (by assumption))) (bl9_4.wide (Nat.le_refl _) (by omega))) (o9_5.keep (by repeat (first | exact H2.le.refl _ | apply le_push | refine le_up ?_ (by assumption))) (bl9_5.wide (Nat.le_refl _) (by omega))) (o9_6.keep (by repeat (first | exact H2.le.refl _ | apply le_push | refine le_up ?_ (by assumption))) (bl9_6.wide (Nat.le_refl _) (by omega))) (o9_8.keep (by repeat (first | exact H2.le.refl _ | apply le_push | refine le_up ?_ (by assumption))) (bl9_8.wide (Nat.le_refl _) (by omega))) (o9_9.keep (by repeat (first | exact H2.le.refl _ | apply le_push | refine le_up ?_ (by assumption))) (bl9_9.wide (Nat.le_refl _) (by omega))) (o9_12.keep (by repeat (first | exact H2.le.refl _ | apply le_push | refine le_up ?_ (by assumption))) (bl9_12.wide (Nat.le_refl _) (by omega))) (o9_13.keep (by repeat (first | exact H2.le.refl _ | apply le_push | refine le_up ?_ (by assumption))) (bl9_13.wide (Nat.le_refl _) (by omega))) (o9_14.keep (by repeat (first | exact H2.le.refl _ | apply le_push | refine le_up ?_ (by assumption))) (bl9_14.wide (Nat.le_refl _) (by omega))) (o9_15.keep (by repeat (first | exact H2.le.refl _ | apply le_push | refine le_up ?_ (by assumption))) (bl9_15.wide (Nat.le_refl _) (by omega))) (o9_16.keep (by repeat (first | exact H2.le.refl _ | apply le_push | refine le_up ?_ (by assumption))) (bl9_16.wide (Nat.le_refl _) (by omega))) (bl9.wide (Nat.le_refl _) (by first | omega | (simp only [hn_push, hn_up]; omega))) ⟨by omega, by omega⟩) ?_
  rintro _ g18 ⟨k18, z18_3, z18_4, z18_5, z18_6, z18_8, z18_9, z18_12, z18_13, z18_14, z18_15, z18_16, rfl, lo18, hi18, ⟨o9_3', o9_4', o9_5', o9_6', o9_8', o9_9', o9_12', o9_13', o9_14', o9_15', o9_16'⟩, hd18, nn18, fr18⟩
  try simp only [hn_push, hn_up] at nn18
  replace o4_3 := OT.frame (g' := g18) (o4_3.keep (by repeat (first | exact H2.le.refl _ | apply le_push | refine le_up ?_ (by assumption))) (bl4_3.wide (Nat.le_refl _) (by omega))) fun b hb => fr18 b (by have := (bl4_3.2 b hb).2; first | omega | (simp only [hn_push, hn_up]; omega)) (fun hx => by have := bl4.2 b (by simp [hb]); have := bl9.2 b hx; omega)
  replace o4_4 := OT.frame (g' := g18) (o4_4.keep (by repeat (first | exact H2.le.refl _ | apply le_push | refine le_up ?_ (by assumption))) (bl4_4.wide (Nat.le_refl _) (by omega))) fun b hb => fr18 b (by have := (bl4_4.2 b hb).2; first | omega | (simp only [hn_push, hn_up]; omega)) (fun hx => by have := bl4.2 b (by simp [hb]); have := bl9.2 b hx; omega)
  replace o4_5 := OT.frame (g' := g18) (o4_5.keep (by repeat (first | exact H2.le.refl _ | apply le_push | refine le_up ?_ (by assumption))) (bl4_5.wide (Nat.le_refl _) (by omega))) fun b hb => fr18 b (by have := (bl4_5.2 b hb).2; first | omega | (simp only [hn_push, hn_up]; omega)) (fun hx => by have := bl4.2 b (by simp [hb]); have := bl9.2 b hx; omega)
  replace o4_6 := OT.frame (g' := g18) (o4_6.keep (by repeat (first | exact H2.le.refl _ | apply le_push | refine le_up ?_ (by assumption))) (bl4_6.wide (Nat.le_refl _) (by omega))) fun b hb => fr18 b (by have := (bl4_6.2 b hb).2; first | omega | (simp only [hn_push, hn_up]; omega)) (fun hx => by have := bl4.2 b (by simp [hb]); have := bl9.2 b hx; omega)
  replace o4_8 := OT.frame (g' := g18) (o4_8.keep (by repeat (first | exact H2.le.refl _ | apply le_push | refine le_up ?_ (by assumption))) (bl4_8.wide (Nat.le_refl _) (by omega))) fun b hb => fr18 b (by have := (bl4_8.2 b hb).2; first | omega | (simp only [hn_push, hn_up]; omega)) (fun hx => by have := bl4.2 b (by simp [hb]); have := bl9.2 b hx; omega)
  replace o4_9 := OT.frame (g' := g18) (o4_9.keep (by repeat (first | exact H2.le.refl _ | apply le_push | refine le_up ?_ (by assumption))) (bl4_9.wide (Nat.le_refl _) (by omega))) fun b hb => fr18 b (by have := (bl4_9.2 b hb).2; first | omega | (simp only [hn_push, hn_up]; omega)) (fun hx => by have := bl4.2 b (by simp [hb]); have := bl9.2 b hx; omega)
  replace o4_12 := OT.frame (g' := g18) (o4_12.keep (by repeat (first | exact H2.le.refl _ | apply le_push | refine le_up ?_ (by assumption))) (bl4_12.wide (Nat.le_refl _) (by omega))) fun b hb => fr18 b (by have := (bl4_12.2 b hb).2; first | omega | (simp only [hn_push, hn_up]; omega)) (fun hx => by have := bl4.2 b (by simp [hb]); have := bl9.2 b hx; omega)
  replace o4_13 := OT.frame (g' := g18) (o4_13.keep (by repeat (first | exact H2.le.refl _ | apply le_push | refine le_up ?_ (by assumption))) (bl4_13.wide (Nat.le_refl _) (by omega))) fun b hb => fr18 b (by have := (bl4_13.2 b hb).2; first | omega | (simp only [hn_push, hn_up]; omega)) (fun hx => by have := bl4.2 b (by simp [hb]); have := bl9.2 b hx; omega)
  replace o4_14 := OT.frame (g' := g18) (o4_14.keep (by repeat (first | exact H2.le.refl _ | apply le_push | refine le_up ?_ (by assumption))) (bl4_14.wide (Nat.le_refl _) (by omega))) fun b hb => fr18 b (by have := (bl4_14.2 b hb).2; first | omega | (simp only [hn_push, hn_up]; omega)) (fun hx => by have := bl4.2 b (by simp [hb]); have := bl9.2 b hx; omega)
  replace o4_15 := OT.frame (g' := g18) (o4_15.keep (by repeat (first | exact H2.le.refl _ | apply le_push | refine le_up ?_ (by assumption))) (bl4_15.wide (Nat.le_refl _) (by omega))) fun b hb => fr18 b (by have := (bl4_15.2 b hb).2; first | omega | (simp only [hn_push, hn_up]; omega)) (fun hx => by have := bl4.2 b (by simp [hb]); have := bl9.2 b hx; omega)
  replace o4_16 := OT.frame (g' := g18) (o4_16.keep (by repeat (first | exact H2.le.refl _ | apply le_push | refine le_up ?_ (by assumption))) (bl4_16.wide (Nat.le_refl _) (by omega))) fun b hb => fr18 b (by have := (bl4_16.2 b hb).2; first | omega | (simp only [hn_push, hn_up]; omega)) (fun hx => by have := bl4.2 b (by simp [hb]); have := bl9.2 b hx; omega)
  replace o6_3 := OT.frame (g' := g18) (o6_3.keep (by repeat (first | exact H2.le.refl _ | apply le_push | refine le_up ?_ (by assumption))) (bl6_3.wide (Nat.le_refl _) (by omega))) fun b hb => fr18 b (by have := (bl6_3.2 b hb).2; first | omega | (simp only [hn_push, hn_up]; omega)) (fun hx => by have := bl6.2 b (by simp [hb]); have := bl9.2 b hx; omega)
  replace o6_4 := OT.frame (g' := g18) (o6_4.keep (by repeat (first | exact H2.le.refl _ | apply le_push | refine le_up ?_ (by assumption))) (bl6_4.wide (Nat.le_refl _) (by omega))) fun b hb => fr18 b (by have := (bl6_4.2 b hb).2; first | omega | (simp only [hn_push, hn_up]; omega)) (fun hx => by have := bl6.2 b (by simp [hb]); have := bl9.2 b hx; omega)
  replace o6_5 := OT.frame (g' := g18) (o6_5.keep (by repeat (first | exact H2.le.refl _ | apply le_push | refine le_up ?_ (by assumption))) (bl6_5.wide (Nat.le_refl _) (by omega))) fun b hb => fr18 b (by have := (bl6_5.2 b hb).2; first | omega | (simp only [hn_push, hn_up]; omega)) (fun hx => by have := bl6.2 b (by simp [hb]); have := bl9.2 b hx; omega)
  replace o6_6 := OT.frame (g' := g18) (o6_6.keep (by repeat (first | exact H2.le.refl _ | apply le_push | refine le_up ?_ (by assumption))) (bl6_6.wide (Nat.le_refl _) (by omega))) fun b hb => fr18 b (by have := (bl6_6.2 b hb).2; first | omega | (simp only [hn_push, hn_up]; omega)) (fun hx => by have := bl6.2 b (by simp [hb]); have := bl9.2 b hx; omega)
  replace o6_8 := OT.frame (g' := g18) (o6_8.keep (by repeat (first | exact H2.le.refl _ | apply le_push | refine le_up ?_ (by assumption))) (bl6_8.wide (Nat.le_refl _) (by omega))) fun b hb => fr18 b (by have := (bl6_8.2 b hb).2; first | omega | (simp only [hn_push, hn_up]; omega)) (fun hx => by have := bl6.2 b (by simp [hb]); have := bl9.2 b hx; omega)
  replace o6_9 := OT.frame (g' := g18) (o6_9.keep (by repeat (first | exact H2.le.refl _ | apply le_push | refine le_up ?_ (by assumption))) (bl6_9.wide (Nat.le_refl _) (by omega))) fun b hb => fr18 b (by have := (bl6_9.2 b hb).2; first | omega | (simp only [hn_push, hn_up]; omega)) (fun hx => by have := bl6.2 b (by simp [hb]); have := bl9.2 b hx; omega)
  replace o6_12 := OT.frame (g' := g18) (o6_12.keep (by repeat (first | exact H2.le.refl _ | apply le_push | refine le_up ?_ (by assumption))) (bl6_12.wide (Nat.le_refl _) (by omega))) fun b hb => fr18 b (by have := (bl6_12.2 b hb).2; first | omega | (simp only [hn_push, hn_up]; omega)) (fun hx => by have := bl6.2 b (by simp [hb]); have := bl9.2 b hx; omega)
  replace o6_13 := OT.frame (g' := g18) (o6_13.keep (by repeat (first | exact H2.le.refl _ | apply le_push | refine le_up ?_ (by assumption))) (bl6_13.wide (Nat.le_refl _) (by omega))) fun b hb => fr18 b (by have := (bl6_13.2 b hb).2; first | omega | (simp only [hn_push, hn_up]; omega)) (fun hx => by have := bl6.2 b (by simp [hb]); have := bl9.2 b hx; omega)
  replace o9_3 := o9_3'
  replace o9_4 := o9_4'
  replace o9_5 := o9_5'
  replace o9_6 := o9_6'
  replace o9_8 := o9_8'
  replace o9_9 := o9_9'
  replace o9_12 := o9_12'
  replace o9_13 := o9_13'
  replace o9_14 := o9_14'
  replace o9_15 := o9_15'
  replace o9_16 := o9_16'
  replace row0 := (show hg g18 (hn h .mk) .mk = hg g16 (hn h .mk) .mk from (show hg g18 (hn h .mk) .mk = hg _ (hn h .mk) .mk from fr18 (hn h .mk) (by first | omega | (simp only [hn_push, hn_up]; omega)) (fun hx => by have := bl9.2 _ hx; omega)).trans (by first | rfl | simp -dsimp -implicitDefEqProofs only [go_sem, rq1, rq2, rq3, rq4, rq5, rq6, rq7, ne5, nf5, ne7, nf7, ne8, nf8, ne10, nf10, ne11, nf11, ne12, nf12, kq16, hoo])).trans row0
  replace row1 := (show hg g18 (hn g4 .mk) .mk = hg g16 (hn g4 .mk) .mk from (show hg g18 (hn g4 .mk) .mk = hg _ (hn g4 .mk) .mk from fr18 (hn g4 .mk) (by first | omega | (simp only [hn_push, hn_up]; omega)) (fun hx => by have := bl9.2 _ hx; omega)).trans (by first | rfl | simp -dsimp -implicitDefEqProofs only [go_sem, rq1, rq2, rq3, rq4, rq5, rq6, rq7, ne5, nf5, ne7, nf7, ne8, nf8, ne10, nf10, ne11, nf11, ne12, nf12, kq16, hoo])).trans row1
  replace row2 := (show hg g18 (hn g6 .mk) .mk = hg g16 (hn g6 .mk) .mk from (show hg g18 (hn g6 .mk) .mk = hg _ (hn g6 .mk) .mk from fr18 (hn g6 .mk) (by first | omega | (simp only [hn_push, hn_up]; omega)) (fun hx => by have := bl9.2 _ hx; omega)).trans (by first | rfl | simp -dsimp -implicitDefEqProofs only [go_sem, rq1, rq2, rq3, rq4, rq5, rq6, rq7, ne5, nf5, ne7, nf7, ne8, nf8, ne10, nf10, ne11, nf11, ne12, nf12, kq16, hoo])).trans row2
  replace row3 := (show hg g18 (hn g9 .mk) .mk = hg g16 (hn g9 .mk) .mk from (show hg g18 (hn g9 .mk) .mk = hg _ (hn g9 .mk) .mk from fr18 (hn g9 .mk) (by first | omega | (simp only [hn_push, hn_up]; omega)) (fun hx => by have := bl9.2 _ hx; omega)).trans (by first | rfl | simp -dsimp -implicitDefEqProofs only [go_sem, rq1, rq2, rq3, rq4, rq5, rq6, rq7, ne5, nf5, ne7, nf7, ne8, nf8, ne10, nf10, ne11, nf11, ne12, nf12, kq16, hoo])).trans row3
  have kp18 : 0 ≤ k18 := by omega
  have kq18 : ¬ k18 < 0 := by omega
  repeat (first | rw [kz_o] | rw [kz_r0] | simp -dsimp -implicitDefEqProofs only [go_sem, rq1, rq2, rq3, rq4, rq5, rq6, rq7, ne5, nf5, ne7, nf7, ne8, nf8, ne10, nf10, ne11, nf11, ne12, nf12, kq16, kq18, ce4_3, ce4_4, ce4_5, ce4_6, ce4_8, ce4_9, ce4_12, ce4_13, ce4_14, ce4_15, ce4_16, ce6_3, ce6_4, ce6_5, ce6_6, ce6_8, ce6_9, ce6_12, ce6_13, ce9_3, ce9_4, ce9_5, ce9_6, ce9_8, ce9_9, ce9_12, ce9_13, ce9_14, ce9_15, ce9_16, row0, row1, row2, row3, hoo])
  refine pw_intro (heldEngine_tree (outEngine (c := (⟨⟨(newE m p).model.dim, (newE m p).model.heads, (newE m p).model.context, z18_3, z18_4, z18_5, z18_6, ⟨(newE m p).model.head.width, z18_8, z18_9, (newE m p).model.head.mul, (newE m p).model.head.shift⟩, ⟨z18_12, z18_13⟩⟩, ⟨z18_14, z18_15⟩, z18_16⟩ : LEngine)) (o9_3.keep (by repeat (first | exact H2.le.refl _ | apply le_push | refine le_up ?_ (by assumption))) (bl9_3.wide (Nat.le_refl _) (by omega))) (o9_4.keep (by repeat (first | exact H2.le.refl _ | apply le_push | refine le_up ?_ (by assumption))) (bl9_4.wide (Nat.le_refl _) (by omega))) (o9_5.keep (by repeat (first | exact H2.le.refl _ | apply le_push | refine le_up ?_ (by assumption))) (bl9_5.wide (Nat.le_refl _) (by omega))) (o9_6.keep (by repeat (first | exact H2.le.refl _ | apply le_push | refine le_up ?_ (by assumption))) (bl9_6.wide (Nat.le_refl _) (by omega))) (o9_8.keep (by repeat (first | exact H2.le.refl _ | apply le_push | refine le_up ?_ (by assumption))) (bl9_8.wide (Nat.le_refl _) (by omega))) (o9_9.keep (by repeat (first | exact H2.le.refl _ | apply le_push | refine le_up ?_ (by assumption))) (bl9_9.wide (Nat.le_refl _) (by omega))) (o9_12.keep (by repeat (first | exact H2.le.refl _ | apply le_push | refine le_up ?_ (by assumption))) (bl9_12.wide (Nat.le_refl _) (by omega))) (o9_13.keep (by repeat (first | exact H2.le.refl _ | apply le_push | refine le_up ?_ (by assumption))) (bl9_13.wide (Nat.le_refl _) (by omega))) (o9_14.keep (by repeat (first | exact H2.le.refl _ | apply le_push | refine le_up ?_ (by assumption))) (bl9_14.wide (Nat.le_refl _) (by omega))) (o9_15.keep (by repeat (first | exact H2.le.refl _ | apply le_push | refine le_up ?_ (by assumption))) (bl9_15.wide (Nat.le_refl _) (by omega))) (o9_16.keep (by repeat (first | exact H2.le.refl _ | apply le_push | refine le_up ?_ (by assumption))) (bl9_16.wide (Nat.le_refl _) (by omega)))) hd18) ?_
  rintro _ n19 hn19 rfl
  have hm19 := hn19
  try simp only [hn_push, hn_up] at hm19
  repeat (first | rw [kz_o] | rw [kz_r0] | simp -dsimp -implicitDefEqProofs only [go_sem, rq1, rq2, rq3, rq4, rq5, rq6, rq7, ne5, nf5, ne7, nf7, ne8, nf8, ne10, nf10, ne11, nf11, ne12, nf12, kq16, kq18, ce4_3, ce4_4, ce4_5, ce4_6, ce4_8, ce4_9, ce4_12, ce4_13, ce4_14, ce4_15, ce4_16, ce6_3, ce6_4, ce6_5, ce6_6, ce6_8, ce6_9, ce6_12, ce6_13, ce9_3, ce9_4, ce9_5, ce9_6, ce9_8, ce9_9, ce9_12, ce9_13, ce9_14, ce9_15, ce9_16, row0, row1, row2, row3, hoo])
  refine wz_intro (toModel_ok (by omega)) ?_
  rintro _ g20 ⟨l20, ys20, b20, rfl, o20, bl20⟩
  try simp only [hn_push, hn_up] at bl20
  have nn20 := l20.n
  try simp only [hn_push, hn_up] at nn20
  have LL20 : g18.le g20 := H2.le.trans (by repeat (first | exact H2.le.refl _ | apply le_push | refine le_up ?_ (by assumption))) l20
  have ln20 := LL20.n
  replace o4_3 := o4_3.keep LL20 (bl4_3.wide (Nat.le_refl _) (by omega))
  replace o4_4 := o4_4.keep LL20 (bl4_4.wide (Nat.le_refl _) (by omega))
  replace o4_5 := o4_5.keep LL20 (bl4_5.wide (Nat.le_refl _) (by omega))
  replace o4_6 := o4_6.keep LL20 (bl4_6.wide (Nat.le_refl _) (by omega))
  replace o4_8 := o4_8.keep LL20 (bl4_8.wide (Nat.le_refl _) (by omega))
  replace o4_9 := o4_9.keep LL20 (bl4_9.wide (Nat.le_refl _) (by omega))
  replace o4_12 := o4_12.keep LL20 (bl4_12.wide (Nat.le_refl _) (by omega))
  replace o4_13 := o4_13.keep LL20 (bl4_13.wide (Nat.le_refl _) (by omega))
  replace o4_14 := o4_14.keep LL20 (bl4_14.wide (Nat.le_refl _) (by omega))
  replace o4_15 := o4_15.keep LL20 (bl4_15.wide (Nat.le_refl _) (by omega))
  replace o4_16 := o4_16.keep LL20 (bl4_16.wide (Nat.le_refl _) (by omega))
  replace o6_3 := o6_3.keep LL20 (bl6_3.wide (Nat.le_refl _) (by omega))
  replace o6_4 := o6_4.keep LL20 (bl6_4.wide (Nat.le_refl _) (by omega))
  replace o6_5 := o6_5.keep LL20 (bl6_5.wide (Nat.le_refl _) (by omega))
  replace o6_6 := o6_6.keep LL20 (bl6_6.wide (Nat.le_refl _) (by omega))
  replace o6_8 := o6_8.keep LL20 (bl6_8.wide (Nat.le_refl _) (by omega))
  replace o6_9 := o6_9.keep LL20 (bl6_9.wide (Nat.le_refl _) (by omega))
  replace o6_12 := o6_12.keep LL20 (bl6_12.wide (Nat.le_refl _) (by omega))
  replace o6_13 := o6_13.keep LL20 (bl6_13.wide (Nat.le_refl _) (by omega))
  replace o9_3 := o9_3.keep LL20 (bl9_3.wide (Nat.le_refl _) (by omega))
  replace o9_4 := o9_4.keep LL20 (bl9_4.wide (Nat.le_refl _) (by omega))
  replace o9_5 := o9_5.keep LL20 (bl9_5.wide (Nat.le_refl _) (by omega))
  replace o9_6 := o9_6.keep LL20 (bl9_6.wide (Nat.le_refl _) (by omega))
  replace o9_8 := o9_8.keep LL20 (bl9_8.wide (Nat.le_refl _) (by omega))
  replace o9_9 := o9_9.keep LL20 (bl9_9.wide (Nat.le_refl _) (by omega))
  replace o9_12 := o9_12.keep LL20 (bl9_12.wide (Nat.le_refl _) (by omega))
  replace o9_13 := o9_13.keep LL20 (bl9_13.wide (Nat.le_refl _) (by omega))
  replace o9_14 := o9_14.keep LL20 (bl9_14.wide (Nat.le_refl _) (by omega))
  replace o9_15 := o9_15.keep LL20 (bl9_15.wide (Nat.le_refl _) (by omega))
  replace o9_16 := o9_16.keep LL20 (bl9_16.wide (Nat.le_refl _) (by omega))
  replace row0 := (LL20.2 (hn h .mk) (by omega)).trans row0
  replace row1 := (LL20.2 (hn g4 .mk) (by omega)).trans row1
  replace row2 := (LL20.2 (hn g6 .mk) (by omega)).trans row2
  replace row3 := (LL20.2 (hn g9 .mk) (by omega)).trans row3
  obtain ⟨b20_3, s20_3, b20_4, s20_4, b20_5, s20_5, b20_6, s20_6, b20_8, s20_8, b20_9, s20_9, b20_12, s20_12, b20_13, s20_13, rfl, rfl, o20_3, o20_4, o20_5, o20_6, o20_8, o20_9, o20_12, o20_13⟩ := invModel o20
  clear o20
  have bl20_3 := bl20.split.1
  have ce20_3 := OT.cell o20_3
  have bl20_4 := bl20.split.2.1.split.1
  have ce20_4 := OT.cell o20_4
  have bl20_5 := bl20.split.2.1.split.2.1.split.1
  have ce20_5 := OT.cell o20_5
  have bl20_6 := bl20.split.2.1.split.2.1.split.2.1.split.1
  have ce20_6 := OT.cell o20_6
  have bl20_8 := bl20.split.2.1.split.2.1.split.2.1.split.2.1.split.1
  have ce20_8 := OT.cell o20_8
  have bl20_9 := bl20.split.2.1.split.2.1.split.2.1.split.2.1.split.2.1.split.1
  have ce20_9 := OT.cell o20_9
  have bl20_12 := bl20.split.2.1.split.2.1.split.2.1.split.2.1.split.2.1.split.2.1.split.1
  have ce20_12 := OT.cell o20_12
  have bl20_13 := bl20.split.2.1.split.2.1.split.2.1.split.2.1.split.2.1.split.2.1.split.2.1
  have ce20_13 := OT.cell o20_13
  repeat (first | rw [kz_o] | rw [kz_r0] | simp -dsimp -implicitDefEqProofs only [go_sem, rq1, rq2, rq3, rq4, rq5, rq6, rq7, ne5, nf5, ne7, nf7, ne8, nf8, ne10, nf10, ne11, nf11, ne12, nf12, kq16, kq18, ce4_3, ce4_4, ce4_5, ce4_6, ce4_8, ce4_9, ce4_12, ce4_13, ce4_14, ce4_15, ce4_16, ce6_3, ce6_4, ce6_5, ce6_6, ce6_8, ce6_9, ce6_12, ce6_13, ce9_3, ce9_4, ce9_5, ce9_6, ce9_8, ce9_9, ce9_12, ce9_13, ce9_14, ce9_15, ce9_16, ce20_3, ce20_4, ce20_5, ce20_6, ce20_8, ce20_9, ce20_12, ce20_13, row0, row1, row2, row3, hoo])
  refine wz_intro (implNew_tree (outModel (c := m) (o20_3.keep (by repeat (first | exact H2.le.refl _ | apply le_push | refine le_up ?_ (by assumption))) (bl20_3.wide (Nat.le_refl _) (by omega))) (o20_4.keep (by repeat (first | exact H2.le.refl _ | apply le_push | refine le_up ?_ (by assumption))) (bl20_4.wide (Nat.le_refl _) (by omega))) (o20_5.keep (by repeat (first | exact H2.le.refl _ | apply le_push | refine le_up ?_ (by assumption))) (bl20_5.wide (Nat.le_refl _) (by omega))) (o20_6.keep (by repeat (first | exact H2.le.refl _ | apply le_push | refine le_up ?_ (by assumption))) (bl20_6.wide (Nat.le_refl _) (by omega))) (o20_8.keep (by repeat (first | exact H2.le.refl _ | apply le_push | refine le_up ?_ (by assumption))) (bl20_8.wide (Nat.le_refl _) (by omega))) (o20_9.keep (by repeat (first | exact H2.le.refl _ | apply le_push | refine le_up ?_ (by assumption))) (bl20_9.wide (Nat.le_refl _) (by omega))) (o20_12.keep (by repeat (first | exact H2.le.refl _ | apply le_push | refine le_up ?_ (by assumption))) (bl20_12.wide (Nat.le_refl _) (by omega))) (o20_13.keep (by repeat (first | exact H2.le.refl _ | apply le_push | refine le_up ?_ (by assumption))) (bl20_13.wide (Nat.le_refl _) (by omega)))) (by omega)) ?_
  rintro _ g21 ⟨l21, ys21, b21, rfl, o21, bl21⟩
  try simp only [hn_push, hn_up] at bl21
  have nn21 := l21.n
  try simp only [hn_push, hn_up] at nn21
  have LL21 : g20.le g21 := H2.le.trans (by repeat (first | exact H2.le.refl _ | apply le_push | refine le_up ?_ (by assumption))) l21
  have ln21 := LL21.n
  replace o4_3 := o4_3.keep LL21 (bl4_3.wide (Nat.le_refl _) (by omega))
  replace o4_4 := o4_4.keep LL21 (bl4_4.wide (Nat.le_refl _) (by omega))
  replace o4_5 := o4_5.keep LL21 (bl4_5.wide (Nat.le_refl _) (by omega))
  replace o4_6 := o4_6.keep LL21 (bl4_6.wide (Nat.le_refl _) (by omega))
  replace o4_8 := o4_8.keep LL21 (bl4_8.wide (Nat.le_refl _) (by omega))
  replace o4_9 := o4_9.keep LL21 (bl4_9.wide (Nat.le_refl _) (by omega))
  replace o4_12 := o4_12.keep LL21 (bl4_12.wide (Nat.le_refl _) (by omega))
  replace o4_13 := o4_13.keep LL21 (bl4_13.wide (Nat.le_refl _) (by omega))
  replace o4_14 := o4_14.keep LL21 (bl4_14.wide (Nat.le_refl _) (by omega))
  replace o4_15 := o4_15.keep LL21 (bl4_15.wide (Nat.le_refl _) (by omega))
  replace o4_16 := o4_16.keep LL21 (bl4_16.wide (Nat.le_refl _) (by omega))
  replace o6_3 := o6_3.keep LL21 (bl6_3.wide (Nat.le_refl _) (by omega))
  replace o6_4 := o6_4.keep LL21 (bl6_4.wide (Nat.le_refl _) (by omega))
  replace o6_5 := o6_5.keep LL21 (bl6_5.wide (Nat.le_refl _) (by omega))
  replace o6_6 := o6_6.keep LL21 (bl6_6.wide (Nat.le_refl _) (by omega))
  replace o6_8 := o6_8.keep LL21 (bl6_8.wide (Nat.le_refl _) (by omega))
  replace o6_9 := o6_9.keep LL21 (bl6_9.wide (Nat.le_refl _) (by omega))
  replace o6_12 := o6_12.keep LL21 (bl6_12.wide (Nat.le_refl _) (by omega))
  replace o6_13 := o6_13.keep LL21 (bl6_13.wide (Nat.le_refl _) (by omega))
  replace o9_3 := o9_3.keep LL21 (bl9_3.wide (Nat.le_refl _) (by omega))
  replace o9_4 := o9_4.keep LL21 (bl9_4.wide (Nat.le_refl _) (by omega))
  replace o9_5 := o9_5.keep LL21 (bl9_5.wide (Nat.le_refl _) (by omega))
  replace o9_6 := o9_6.keep LL21 (bl9_6.wide (Nat.le_refl _) (by omega))
  replace o9_8 := o9_8.keep LL21 (bl9_8.wide (Nat.le_refl _) (by omega))
  replace o9_9 := o9_9.keep LL21 (bl9_9.wide (Nat.le_refl _) (by omega))
  replace o9_12 := o9_12.keep LL21 (bl9_12.wide (Nat.le_refl _) (by omega))
  replace o9_13 := o9_13.keep LL21 (bl9_13.wide (Nat.le_refl _) (by omega))
  replace o9_14 := o9_14.keep LL21 (bl9_14.wide (Nat.le_refl _) (by omega))
  replace o9_15 := o9_15.keep LL21 (bl9_15.wide (Nat.le_refl _) (by omega))
  replace o9_16 := o9_16.keep LL21 (bl9_16.wide (Nat.le_refl _) (by omega))
  replace o20_3 := o20_3.keep LL21 (bl20_3.wide (Nat.le_refl _) (by omega))
  replace o20_4 := o20_4.keep LL21 (bl20_4.wide (Nat.le_refl _) (by omega))
  replace o20_5 := o20_5.keep LL21 (bl20_5.wide (Nat.le_refl _) (by omega))
  replace o20_6 := o20_6.keep LL21 (bl20_6.wide (Nat.le_refl _) (by omega))
  replace o20_8 := o20_8.keep LL21 (bl20_8.wide (Nat.le_refl _) (by omega))
  replace o20_9 := o20_9.keep LL21 (bl20_9.wide (Nat.le_refl _) (by omega))
  replace o20_12 := o20_12.keep LL21 (bl20_12.wide (Nat.le_refl _) (by omega))
  replace o20_13 := o20_13.keep LL21 (bl20_13.wide (Nat.le_refl _) (by omega))
  replace row0 := (LL21.2 (hn h .mk) (by omega)).trans row0
  replace row1 := (LL21.2 (hn g4 .mk) (by omega)).trans row1
  replace row2 := (LL21.2 (hn g6 .mk) (by omega)).trans row2
  replace row3 := (LL21.2 (hn g9 .mk) (by omega)).trans row3
  obtain ⟨b21_3, s21_3, b21_4, s21_4, b21_5, s21_5, b21_6, s21_6, b21_8, s21_8, b21_9, s21_9, b21_12, s21_12, b21_13, s21_13, b21_14, s21_14, b21_15, s21_15, b21_16, s21_16, rfl, rfl, o21_3, o21_4, o21_5, o21_6, o21_8, o21_9, o21_12, o21_13, o21_14, o21_15, o21_16⟩ := invEngine o21
  clear o21
  have bl21_3 := bl21.split.1
  have ce21_3 := OT.cell o21_3
  have bl21_4 := bl21.split.2.1.split.1
  have ce21_4 := OT.cell o21_4
  have bl21_5 := bl21.split.2.1.split.2.1.split.1
  have ce21_5 := OT.cell o21_5
  have bl21_6 := bl21.split.2.1.split.2.1.split.2.1.split.1
  have ce21_6 := OT.cell o21_6
  have bl21_8 := bl21.split.2.1.split.2.1.split.2.1.split.2.1.split.1
  have ce21_8 := OT.cell o21_8
  have bl21_9 := bl21.split.2.1.split.2.1.split.2.1.split.2.1.split.2.1.split.1
  have ce21_9 := OT.cell o21_9
  have bl21_12 := bl21.split.2.1.split.2.1.split.2.1.split.2.1.split.2.1.split.2.1.split.1
  have ce21_12 := OT.cell o21_12
  have bl21_13 := bl21.split.2.1.split.2.1.split.2.1.split.2.1.split.2.1.split.2.1.split.2.1.split.1
  have ce21_13 := OT.cell o21_13
  have bl21_14 := bl21.split.2.1.split.2.1.split.2.1.split.2.1.split.2.1.split.2.1.split.2.1.split.2.1.split.1
  have ce21_14 := OT.cell o21_14
  have bl21_15 := bl21.split.2.1.split.2.1.split.2.1.split.2.1.split.2.1.split.2.1.split.2.1.split.2.1.split.2.1.split.1
  have ce21_15 := OT.cell o21_15
  have bl21_16 := bl21.split.2.1.split.2.1.split.2.1.split.2.1.split.2.1.split.2.1.split.2.1.split.2.1.split.2.1.split.2.1
  have ce21_16 := OT.cell o21_16
  have ne22 : ((hn h .mk) == (hn g21 .mk)) = false := by simp; omega
  have nf22 : ((hn g21 .mk) == (hn h .mk)) = false := by simp; omega
  have ne23 : ((hn g4 .mk) == (hn g21 .mk)) = false := by simp; omega
  have nf23 : ((hn g21 .mk) == (hn g4 .mk)) = false := by simp; omega
  have ne24 : ((hn g6 .mk) == (hn g21 .mk)) = false := by simp; omega
  have nf24 : ((hn g21 .mk) == (hn g6 .mk)) = false := by simp; omega
  have ne25 : ((hn g9 .mk) == (hn g21 .mk)) = false := by simp; omega
  have nf25 : ((hn g21 .mk) == (hn g9 .mk)) = false := by simp; omega
  repeat (first | rw [kz_o] | rw [kz_r0] | simp -dsimp -implicitDefEqProofs only [go_sem, rq1, rq2, rq3, rq4, rq5, rq6, rq7, ne5, nf5, ne7, nf7, ne8, nf8, ne10, nf10, ne11, nf11, ne12, nf12, kq16, kq18, ce4_3, ce4_4, ce4_5, ce4_6, ce4_8, ce4_9, ce4_12, ce4_13, ce4_14, ce4_15, ce4_16, ce6_3, ce6_4, ce6_5, ce6_6, ce6_8, ce6_9, ce6_12, ce6_13, ce9_3, ce9_4, ce9_5, ce9_6, ce9_8, ce9_9, ce9_12, ce9_13, ce9_14, ce9_15, ce9_16, ce21_3, ce21_4, ce21_5, ce21_6, ce21_8, ce21_9, ce21_12, ce21_13, ce21_14, ce21_15, ce21_16, row0, row1, row2, row3, ne22, nf22, ne23, nf23, ne24, nf24, ne25, nf25, hoo])
  refine pw_intro (eqEngine_tree (outEngine (c := (newE m p)) (o21_3.keep (by repeat (first | exact H2.le.refl _ | apply le_push | refine le_up ?_ (by assumption))) (bl21_3.wide (Nat.le_refl _) (by omega))) (o21_4.keep (by repeat (first | exact H2.le.refl _ | apply le_push | refine le_up ?_ (by assumption))) (bl21_4.wide (Nat.le_refl _) (by omega))) (o21_5.keep (by repeat (first | exact H2.le.refl _ | apply le_push | refine le_up ?_ (by assumption))) (bl21_5.wide (Nat.le_refl _) (by omega))) (o21_6.keep (by repeat (first | exact H2.le.refl _ | apply le_push | refine le_up ?_ (by assumption))) (bl21_6.wide (Nat.le_refl _) (by omega))) (o21_8.keep (by repeat (first | exact H2.le.refl _ | apply le_push | refine le_up ?_ (by assumption))) (bl21_8.wide (Nat.le_refl _) (by omega))) (o21_9.keep (by repeat (first | exact H2.le.refl _ | apply le_push | refine le_up ?_ (by assumption))) (bl21_9.wide (Nat.le_refl _) (by omega))) (o21_12.keep (by repeat (first | exact H2.le.refl _ | apply le_push | refine le_up ?_ (by assumption))) (bl21_12.wide (Nat.le_refl _) (by omega))) (o21_13.keep (by repeat (first | exact H2.le.refl _ | apply le_push | refine le_up ?_ (by assumption))) (bl21_13.wide (Nat.le_refl _) (by omega))) (o21_14.keep (by repeat (first | exact H2.le.refl _ | apply le_push | refine le_up ?_ (by assumption))) (bl21_14.wide (Nat.le_refl _) (by omega))) (o21_15.keep (by repeat (first | exact H2.le.refl _ | apply le_push | refine le_up ?_ (by assumption))) (bl21_15.wide (Nat.le_refl _) (by omega))) (o21_16.keep (by repeat (first | exact H2.le.refl _ | apply le_push | refine le_up ?_ (by assumption))) (bl21_16.wide (Nat.le_refl _) (by omega)))) (outEngine (c := (newE m p)) (o4_3.keep (by repeat (first | exact H2.le.refl _ | apply le_push | refine le_up ?_ (by assumption))) (bl4_3.wide (Nat.le_refl _) (by omega))) (o4_4.keep (by repeat (first | exact H2.le.refl _ | apply le_push | refine le_up ?_ (by assumption))) (bl4_4.wide (Nat.le_refl _) (by omega))) (o4_5.keep (by repeat (first | exact H2.le.refl _ | apply le_push | refine le_up ?_ (by assumption))) (bl4_5.wide (Nat.le_refl _) (by omega))) (o4_6.keep (by repeat (first | exact H2.le.refl _ | apply le_push | refine le_up ?_ (by assumption))) (bl4_6.wide (Nat.le_refl _) (by omega))) (o4_8.keep (by repeat (first | exact H2.le.refl _ | apply le_push | refine le_up ?_ (by assumption))) (bl4_8.wide (Nat.le_refl _) (by omega))) (o4_9.keep (by repeat (first | exact H2.le.refl _ | apply le_push | refine le_up ?_ (by assumption))) (bl4_9.wide (Nat.le_refl _) (by omega))) (o4_12.keep (by repeat (first | exact H2.le.refl _ | apply le_push | refine le_up ?_ (by assumption))) (bl4_12.wide (Nat.le_refl _) (by omega))) (o4_13.keep (by repeat (first | exact H2.le.refl _ | apply le_push | refine le_up ?_ (by assumption))) (bl4_13.wide (Nat.le_refl _) (by omega))) (o4_14.keep (by repeat (first | exact H2.le.refl _ | apply le_push | refine le_up ?_ (by assumption))) (bl4_14.wide (Nat.le_refl _) (by omega))) (o4_15.keep (by repeat (first | exact H2.le.refl _ | apply le_push | refine le_up ?_ (by assumption))) (bl4_15.wide (Nat.le_refl _) (by omega))) (o4_16.keep (by repeat (first | exact H2.le.refl _ | apply le_push | refine le_up ?_ (by assumption))) (bl4_16.wide (Nat.le_refl _) (by omega)))) hfe) ?_
  rintro _ n26 hn26 rfl
  have hm26 := hn26
  try simp only [hn_push, hn_up] at hm26
  repeat (first | rw [kz_o] | rw [kz_r0] | simp -dsimp -implicitDefEqProofs only [go_sem, rq1, rq2, rq3, rq4, rq5, rq6, rq7, ne5, nf5, ne7, nf7, ne8, nf8, ne10, nf10, ne11, nf11, ne12, nf12, kq16, kq18, ne22, nf22, ne23, nf23, ne24, nf24, ne25, nf25, ce4_3, ce4_4, ce4_5, ce4_6, ce4_8, ce4_9, ce4_12, ce4_13, ce4_14, ce4_15, ce4_16, ce6_3, ce6_4, ce6_5, ce6_6, ce6_8, ce6_9, ce6_12, ce6_13, ce9_3, ce9_4, ce9_5, ce9_6, ce9_8, ce9_9, ce9_12, ce9_13, ce9_14, ce9_15, ce9_16, ce21_3, ce21_4, ce21_5, ce21_6, ce21_8, ce21_9, ce21_12, ce21_13, ce21_14, ce21_15, ce21_16, row0, row1, row2, row3, hoo])
  refine pw_intro (heldEngine_tree (outEngine (c := (⟨⟨(newE m p).model.dim, (newE m p).model.heads, (newE m p).model.context, z18_3, z18_4, z18_5, z18_6, ⟨(newE m p).model.head.width, z18_8, z18_9, (newE m p).model.head.mul, (newE m p).model.head.shift⟩, ⟨z18_12, z18_13⟩⟩, ⟨z18_14, z18_15⟩, z18_16⟩ : LEngine)) (o9_3.keep (by repeat (first | exact H2.le.refl _ | apply le_push | refine le_up ?_ (by assumption))) (bl9_3.wide (Nat.le_refl _) (by omega))) (o9_4.keep (by repeat (first | exact H2.le.refl _ | apply le_push | refine le_up ?_ (by assumption))) (bl9_4.wide (Nat.le_refl _) (by omega))) (o9_5.keep (by repeat (first | exact H2.le.refl _ | apply le_push | refine le_up ?_ (by assumption))) (bl9_5.wide (Nat.le_refl _) (by omega))) (o9_6.keep (by repeat (first | exact H2.le.refl _ | apply le_push | refine le_up ?_ (by assumption))) (bl9_6.wide (Nat.le_refl _) (by omega))) (o9_8.keep (by repeat (first | exact H2.le.refl _ | apply le_push | refine le_up ?_ (by assumption))) (bl9_8.wide (Nat.le_refl _) (by omega))) (o9_9.keep (by repeat (first | exact H2.le.refl _ | apply le_push | refine le_up ?_ (by assumption))) (bl9_9.wide (Nat.le_refl _) (by omega))) (o9_12.keep (by repeat (first | exact H2.le.refl _ | apply le_push | refine le_up ?_ (by assumption))) (bl9_12.wide (Nat.le_refl _) (by omega))) (o9_13.keep (by repeat (first | exact H2.le.refl _ | apply le_push | refine le_up ?_ (by assumption))) (bl9_13.wide (Nat.le_refl _) (by omega))) (o9_14.keep (by repeat (first | exact H2.le.refl _ | apply le_push | refine le_up ?_ (by assumption))) (bl9_14.wide (Nat.le_refl _) (by omega))) (o9_15.keep (by repeat (first | exact H2.le.refl _ | apply le_push | refine le_up ?_ (by assumption))) (bl9_15.wide (Nat.le_refl _) (by omega))) (o9_16.keep (by repeat (first | exact H2.le.refl _ | apply le_push | refine le_up ?_ (by assumption))) (bl9_16.wide (Nat.le_refl _) (by omega)))) hd18) ?_
  rintro _ n27 hn27 rfl
  have hm27 := hn27
  try simp only [hn_push, hn_up] at hm27
  repeat (first | rw [kz_o] | rw [kz_r0] | simp -dsimp -implicitDefEqProofs only [go_sem, rq1, rq2, rq3, rq4, rq5, rq6, rq7, ne5, nf5, ne7, nf7, ne8, nf8, ne10, nf10, ne11, nf11, ne12, nf12, kq16, kq18, ne22, nf22, ne23, nf23, ne24, nf24, ne25, nf25, ce4_3, ce4_4, ce4_5, ce4_6, ce4_8, ce4_9, ce4_12, ce4_13, ce4_14, ce4_15, ce4_16, ce6_3, ce6_4, ce6_5, ce6_6, ce6_8, ce6_9, ce6_12, ce6_13, ce9_3, ce9_4, ce9_5, ce9_6, ce9_8, ce9_9, ce9_12, ce9_13, ce9_14, ce9_15, ce9_16, ce21_3, ce21_4, ce21_5, ce21_6, ce21_8, ce21_9, ce21_12, ce21_13, ce21_14, ce21_15, ce21_16, row0, row1, row2, row3, hoo])
  rfl
end Go.Bi
end
