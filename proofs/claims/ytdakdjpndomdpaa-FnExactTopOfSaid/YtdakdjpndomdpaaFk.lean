/- The walk of the law on FnExactTopOf. -/
import Derived.Test.YtdakdjpndomdpaaFj
set_option linter.unusedSimpArgs false
set_option linter.unusedVariables false
set_option maxRecDepth 20000
namespace Go.Bi
open Go.Proofs
open Go.Ai (wrap_i64 wrap_u64 wrap_u8)
variable {W0 : World}
theorem FnExactTopOf_ok {f0 : Adr} {z : List Int} {k : Int} {h : H2} (hf0 : z.length ≤ 9223372036854775807)   : WC2 Try.prog W0 8 [.sl f0 1 (ints z), .raw (.int .i64 k)] h (fun v h' => v = .raw (.bool true)) := by
  refine start (P := Try.prog) [[0, 1], [0, 1], [], [0, 1], [0, 1, 5], [0, 1, 5, 6], [0, 1, 5, 6, 7], [], [0, 1, 5, 6, 7], [], [0, 1, 5, 6, 7], [0, 1, 5, 6, 7, 8], [0, 1, 5, 7, 8], [], [0, 1, 5, 7], [0, 1, 5, 7, 9], [0, 1, 5, 7, 9], [0, 1, 5, 7, 9, 10], [0, 1, 5, 7, 9, 10], [], [0, 1, 5, 7, 9, 10], [], [0, 1, 5, 7, 9], [5, 7, 9, 11], [], [7, 9], [7, 9, 10], [9, 10], [], [9, 10], [], []] (by kernel_rfl) Try.func8 rfl (by decide) (by decide +kernel) (rs := [.tmp 4]) rfl rfl (Nat.le_of_ble_eq_true rfl) ?_
  intro wf
  repeat (first | rw [kz_o] | rw [kz_r0] | simp -dsimp -implicitDefEqProofs only [go_sem, Nat.reduceBEq, Nat.reduceAdd, Nat.reduceLeDiff, Nat.reduceMul, Int.reduceLE, Int.reduceLT, Int.reduceBEq])
  refine gz_dec (fun q1 => ?_) (fun q1 => ?_)
  · repeat (first | rw [kz_o] | rw [kz_r0] | simp -dsimp -implicitDefEqProofs only [go_sem, Nat.reduceBEq, Nat.reduceAdd, Nat.reduceLeDiff, Nat.reduceMul, Int.reduceLE, Int.reduceLT, Int.reduceBEq])
    rfl
  have htl := topI_len (zs := z) (k := k)
  repeat (first | rw [kz_o] | rw [kz_r0] | simp -dsimp -implicitDefEqProofs only [go_sem, Nat.reduceBEq, Nat.reduceAdd, Nat.reduceLeDiff, Nat.reduceMul, Int.reduceLE, Int.reduceLT, Int.reduceBEq, hoo])
  refine wz_intro (toIntS_new (by omega)) ?_
  rintro s2 g2 ⟨l2, b2, o2, bl2⟩
  try simp only [hn_push, hn_up] at bl2
  have nn2 := l2.n
  try simp only [hn_push, hn_up] at nn2
  have LL2 : h.le g2 := H2.le.trans (by repeat (first | exact H2.le.refl _ | apply le_push | refine le_up ?_ (by assumption))) l2
  have ln2 := LL2.n
  have ce2 := OT.cell o2
  repeat (first | rw [kz_o] | rw [kz_r0] | simp -dsimp -implicitDefEqProofs only [go_sem, Nat.reduceBEq, Nat.reduceAdd, Nat.reduceLeDiff, Nat.reduceMul, Int.reduceLE, Int.reduceLT, Int.reduceBEq, ce2, hoo])
  refine wz_intro (specTopOf_tree (o2.keep (by repeat (first | exact H2.le.refl _ | apply le_push | refine le_up ?_ (by assumption))) (bl2.wide (Nat.le_refl _) (by omega))) (by omega)) ?_
  rintro s3 g3 ⟨l3, b3, o3, bl3⟩
  try simp only [hn_push, hn_up] at bl3
  have nn3 := l3.n
  try simp only [hn_push, hn_up] at nn3
  have LL3 : g2.le g3 := H2.le.trans (by repeat (first | exact H2.le.refl _ | apply le_push | refine le_up ?_ (by assumption))) l3
  have ln3 := LL3.n
  replace o2 := o2.keep LL3 (bl2.wide (Nat.le_refl _) (by omega))
  have ce3 := OT.cell o3
  repeat (first | rw [kz_o] | rw [kz_r0] | simp -dsimp -implicitDefEqProofs only [go_sem, Nat.reduceBEq, Nat.reduceAdd, Nat.reduceLeDiff, Nat.reduceMul, Int.reduceLE, Int.reduceLT, Int.reduceBEq, ce3, hoo])
  refine wz_intro (toIntS_new (by omega)) ?_
  rintro s4 g4 ⟨l4, b4, o4, bl4⟩
  try simp only [hn_push, hn_up] at bl4
  have nn4 := l4.n
  try simp only [hn_push, hn_up] at nn4
  have LL4 : g3.le g4 := H2.le.trans (by repeat (first | exact H2.le.refl _ | apply le_push | refine le_up ?_ (by assumption))) l4
  have ln4 := LL4.n
  replace o3 := o3.keep LL4 (bl3.wide (Nat.le_refl _) (by omega))
  have ce4 := OT.cell o4
  repeat (first | rw [kz_o] | rw [kz_r0] | simp -dsimp -implicitDefEqProofs only [go_sem, Nat.reduceBEq, Nat.reduceAdd, Nat.reduceLeDiff, Nat.reduceMul, Int.reduceLE, Int.reduceLT, Int.reduceBEq, ce3, ce4, hoo])
  refine wz_intro (implTopOf_tree (o4.keep (by repeat (first | exact H2.le.refl _ | apply le_push | refine le_up ?_ (by assumption))) (bl4.wide (Nat.le_refl _) (by omega))) (by omega)) ?_
  rintro s5 g5 ⟨l5, b5, o5, bl5⟩
  try simp only [hn_push, hn_up] at bl5
  have nn5 := l5.n
  try simp only [hn_push, hn_up] at nn5
  have LL5 : g4.le g5 := H2.le.trans (by repeat (first | exact H2.le.refl _ | apply le_push | refine le_up ?_ (by assumption))) l5
  have ln5 := LL5.n
  replace o3 := o3.keep LL5 (bl3.wide (Nat.le_refl _) (by omega))
  replace o4 := o4.keep LL5 (bl4.wide (Nat.le_refl _) (by omega))
  have ce5 := OT.cell o5
  repeat (first | rw [kz_o] | rw [kz_r0] | simp -dsimp -implicitDefEqProofs only [go_sem, Nat.reduceBEq, Nat.reduceAdd, Nat.reduceLeDiff, Nat.reduceMul, Int.reduceLE, Int.reduceLT, Int.reduceBEq, ce3, ce4, ce5, hoo])
  refine pw_intro (eqIntS_tree (o5.keep (by repeat (first | exact H2.le.refl _ | apply le_push | refine le_up ?_ (by assumption))) (bl5.wide (Nat.le_refl _) (by omega))) (o3.keep (by repeat (first | exact H2.le.refl _ | apply le_push | refine le_up ?_ (by assumption))) (bl3.wide (Nat.le_refl _) (by omega))) (by omega)) ?_
  rintro _ n6 hn6 rfl
  have hm6 := hn6
  try simp only [hn_push, hn_up] at hm6
  repeat (first | rw [kz_o] | rw [kz_r0] | simp -dsimp -implicitDefEqProofs only [go_sem, Nat.reduceBEq, Nat.reduceAdd, Nat.reduceLeDiff, Nat.reduceMul, Int.reduceLE, Int.reduceLT, Int.reduceBEq, ce3, ce4, ce5, hoo])
  refine wz_intro (toIntS_new (by omega)) ?_
  rintro s7 g7 ⟨l7, b7, o7, bl7⟩
  try simp only [hn_push, hn_up] at bl7
  have nn7 := l7.n
  try simp only [hn_push, hn_up] at nn7
  have LL7 : g5.le g7 := H2.le.trans (by repeat (first | exact H2.le.refl _ | apply le_push | refine le_up ?_ (by assumption))) l7
  have ln7 := LL7.n
  replace o3 := o3.keep LL7 (bl3.wide (Nat.le_refl _) (by omega))
  replace o4 := o4.keep LL7 (bl4.wide (Nat.le_refl _) (by omega))
  replace o5 := o5.keep LL7 (bl5.wide (Nat.le_refl _) (by omega))
  have ce7 := OT.cell o7
  repeat (first | rw [kz_o] | rw [kz_r0] | simp -dsimp -implicitDefEqProofs only [go_sem, Nat.reduceBEq, Nat.reduceAdd, Nat.reduceLeDiff, Nat.reduceMul, Int.reduceLE, Int.reduceLT, Int.reduceBEq, ce3, ce4, ce5, ce7, hoo])
  refine pw_intro (eqIntS_tree (o4.keep (by repeat (first | exact H2.le.refl _ | apply le_push | refine le_up ?_ (by assumption))) (bl4.wide (Nat.le_refl _) (by omega))) (o7.keep (by repeat (first | exact H2.le.refl _ | apply le_push | refine le_up ?_ (by assumption))) (bl7.wide (Nat.le_refl _) (by omega))) (by omega)) ?_
  rintro _ n8 hn8 rfl
  have hm8 := hn8
  try simp only [hn_push, hn_up] at hm8
  repeat (first | rw [kz_o] | rw [kz_r0] | simp -dsimp -implicitDefEqProofs only [go_sem, Nat.reduceBEq, Nat.reduceAdd, Nat.reduceLeDiff, Nat.reduceMul, Int.reduceLE, Int.reduceLT, Int.reduceBEq, ce3, ce4, ce5, hoo])
  refine wz_intro (markIntS_tree (o4.keep (by repeat (first | exact H2.le.refl _ | apply le_push | refine le_up ?_ (by assumption))) (bl4.wide (Nat.le_refl _) (by omega))) (bl4.wide (Nat.le_refl _) (by simp only [hn_push, hn_up]; omega)) ⟨by omega, by omega⟩) ?_
  rintro _ g9 ⟨k9, z9, rfl, lo9, hi9, o4', hd9, nn9, fr9⟩
  try simp only [hn_push, hn_up] at nn9
  replace o3 := OT.frame (g' := g9) (o3.keep (by repeat (first | exact H2.le.refl _ | apply le_push | refine le_up ?_ (by assumption))) (bl3.wide (Nat.le_refl _) (by omega))) fun b hb => fr9 b (by have := (bl3.2 b hb).2; first | omega | (simp only [hn_push, hn_up]; omega)) (fun hx => by have := bl3.2 b (by simp [hb]); have := bl4.2 b hx; omega)
  replace o5 := OT.frame (g' := g9) (o5.keep (by repeat (first | exact H2.le.refl _ | apply le_push | refine le_up ?_ (by assumption))) (bl5.wide (Nat.le_refl _) (by omega))) fun b hb => fr9 b (by have := (bl5.2 b hb).2; first | omega | (simp only [hn_push, hn_up]; omega)) (fun hx => by have := bl5.2 b (by simp [hb]); have := bl4.2 b hx; omega)
  replace o4 := o4'
  have kp9 : 0 ≤ k9 := by omega
  have kq9 : ¬ k9 < 0 := by omega
  repeat (first | rw [kz_o] | rw [kz_r0] | simp -dsimp -implicitDefEqProofs only [go_sem, Nat.reduceBEq, Nat.reduceAdd, Nat.reduceLeDiff, Nat.reduceMul, Int.reduceLE, Int.reduceLT, Int.reduceBEq, kq9, ce3, ce4, ce5, hoo])
  refine pw_intro (eqIntS_tree (o5.keep (by repeat (first | exact H2.le.refl _ | apply le_push | refine le_up ?_ (by assumption))) (bl5.wide (Nat.le_refl _) (by omega))) (o3.keep (by repeat (first | exact H2.le.refl _ | apply le_push | refine le_up ?_ (by assumption))) (bl3.wide (Nat.le_refl _) (by omega))) (by omega)) ?_
  rintro _ n10 hn10 rfl
  have hm10 := hn10
  try simp only [hn_push, hn_up] at hm10
  repeat (first | rw [kz_o] | rw [kz_r0] | simp -dsimp -implicitDefEqProofs only [go_sem, Nat.reduceBEq, Nat.reduceAdd, Nat.reduceLeDiff, Nat.reduceMul, Int.reduceLE, Int.reduceLT, Int.reduceBEq, kq9, ce3, ce4, ce5, hoo])
  refine wz_intro (markIntS_tree (o5.keep (by repeat (first | exact H2.le.refl _ | apply le_push | refine le_up ?_ (by assumption))) (bl5.wide (Nat.le_refl _) (by omega))) (bl5.wide (Nat.le_refl _) (by simp only [hn_push, hn_up]; omega)) ⟨by omega, by omega⟩) ?_
  rintro _ g11 ⟨k11, z11, rfl, lo11, hi11, o5', hd11, nn11, fr11⟩
  try simp only [hn_push, hn_up] at nn11
  replace o3 := OT.frame (g' := g11) (o3.keep (by repeat (first | exact H2.le.refl _ | apply le_push | refine le_up ?_ (by assumption))) (bl3.wide (Nat.le_refl _) (by omega))) fun b hb => fr11 b (by have := (bl3.2 b hb).2; first | omega | (simp only [hn_push, hn_up]; omega)) (fun hx => by have := bl3.2 b (by simp [hb]); have := bl5.2 b hx; omega)
  replace o4 := OT.frame (g' := g11) (o4.keep (by repeat (first | exact H2.le.refl _ | apply le_push | refine le_up ?_ (by assumption))) (bl4.wide (Nat.le_refl _) (by omega))) fun b hb => fr11 b (by have := (bl4.2 b hb).2; first | omega | (simp only [hn_push, hn_up]; omega)) (fun hx => by have := bl4.2 b (by simp [hb]); have := bl5.2 b hx; omega)
  replace o5 := o5'
  have kp11 : 0 ≤ k11 := by omega
  have kq11 : ¬ k11 < 0 := by omega
  repeat (first | rw [kz_o] | rw [kz_r0] | simp -dsimp -implicitDefEqProofs only [go_sem, Nat.reduceBEq, Nat.reduceAdd, Nat.reduceLeDiff, Nat.reduceMul, Int.reduceLE, Int.reduceLT, Int.reduceBEq, kq9, kq11, ce3, ce4, ce5, hoo])
  refine pw_intro (heldIntS_tree (o5.keep (by repeat (first | exact H2.le.refl _ | apply le_push | refine le_up ?_ (by assumption))) (bl5.wide (Nat.le_refl _) (by omega))) hd11) ?_
  rintro _ n12 hn12 rfl
  have hm12 := hn12
  try simp only [hn_push, hn_up] at hm12
  repeat (first | rw [kz_o] | rw [kz_r0] | simp -dsimp -implicitDefEqProofs only [go_sem, Nat.reduceBEq, Nat.reduceAdd, Nat.reduceLeDiff, Nat.reduceMul, Int.reduceLE, Int.reduceLT, Int.reduceBEq, kq9, kq11, ce3, ce4, ce5, hoo])
  refine wz_intro (toIntS_new (by omega)) ?_
  rintro s13 g13 ⟨l13, b13, o13, bl13⟩
  try simp only [hn_push, hn_up] at bl13
  have nn13 := l13.n
  try simp only [hn_push, hn_up] at nn13
  have LL13 : g11.le g13 := H2.le.trans (by repeat (first | exact H2.le.refl _ | apply le_push | refine le_up ?_ (by assumption))) l13
  have ln13 := LL13.n
  replace o3 := o3.keep LL13 (bl3.wide (Nat.le_refl _) (by omega))
  replace o4 := o4.keep LL13 (bl4.wide (Nat.le_refl _) (by omega))
  replace o5 := o5.keep LL13 (bl5.wide (Nat.le_refl _) (by omega))
  have ce13 := OT.cell o13
  repeat (first | rw [kz_o] | rw [kz_r0] | simp -dsimp -implicitDefEqProofs only [go_sem, Nat.reduceBEq, Nat.reduceAdd, Nat.reduceLeDiff, Nat.reduceMul, Int.reduceLE, Int.reduceLT, Int.reduceBEq, kq9, kq11, ce3, ce4, ce5, ce13, hoo])
  refine wz_intro (implTopOf_tree (o13.keep (by repeat (first | exact H2.le.refl _ | apply le_push | refine le_up ?_ (by assumption))) (bl13.wide (Nat.le_refl _) (by omega))) (by omega)) ?_
  rintro s14 g14 ⟨l14, b14, o14, bl14⟩
  try simp only [hn_push, hn_up] at bl14
  have nn14 := l14.n
  try simp only [hn_push, hn_up] at nn14
  have LL14 : g13.le g14 := H2.le.trans (by repeat (first | exact H2.le.refl _ | apply le_push | refine le_up ?_ (by assumption))) l14
  have ln14 := LL14.n
  replace o3 := o3.keep LL14 (bl3.wide (Nat.le_refl _) (by omega))
  replace o4 := o4.keep LL14 (bl4.wide (Nat.le_refl _) (by omega))
  replace o5 := o5.keep LL14 (bl5.wide (Nat.le_refl _) (by omega))
  replace o13 := o13.keep LL14 (bl13.wide (Nat.le_refl _) (by omega))
  have ce14 := OT.cell o14
  repeat (first | rw [kz_o] | rw [kz_r0] | simp -dsimp -implicitDefEqProofs only [go_sem, Nat.reduceBEq, Nat.reduceAdd, Nat.reduceLeDiff, Nat.reduceMul, Int.reduceLE, Int.reduceLT, Int.reduceBEq, kq9, kq11, ce3, ce4, ce5, ce14, hoo])
  refine pw_intro (eqIntS_tree (o14.keep (by repeat (first | exact H2.le.refl _ | apply le_push | refine le_up ?_ (by assumption))) (bl14.wide (Nat.le_refl _) (by omega))) (o3.keep (by repeat (first | exact H2.le.refl _ | apply le_push | refine le_up ?_ (by assumption))) (bl3.wide (Nat.le_refl _) (by omega))) (by omega)) ?_
  rintro _ n15 hn15 rfl
  have hm15 := hn15
  try simp only [hn_push, hn_up] at hm15
  repeat (first | rw [kz_o] | rw [kz_r0] | simp -dsimp -implicitDefEqProofs only [go_sem, Nat.reduceBEq, Nat.reduceAdd, Nat.reduceLeDiff, Nat.reduceMul, Int.reduceLE, Int.reduceLT, Int.reduceBEq, kq9, kq11, ce3, ce4, ce5, ce14, hoo])
  refine pw_intro (heldIntS_tree (o5.keep (by repeat (first | exact H2.le.refl _ | apply le_push | refine le_up ?_ (by assumption))) (bl5.wide (Nat.le_refl _) (by omega))) hd11) ?_
  rintro _ n16 hn16 rfl
  have hm16 := hn16
  try simp only [hn_push, hn_up] at hm16
  repeat (first | rw [kz_o] | rw [kz_r0] | simp -dsimp -implicitDefEqProofs only [go_sem, Nat.reduceBEq, Nat.reduceAdd, Nat.reduceLeDiff, Nat.reduceMul, Int.reduceLE, Int.reduceLT, Int.reduceBEq, kq9, kq11, ce3, ce4, ce5, ce14, hoo])
  rfl
end Go.Bi
