/- The walk of the law on FnExactChoose. -/
import Derived.Test.YtdakdjpndomdpaaGe
set_option linter.unusedSimpArgs false
set_option linter.unusedVariables false
set_option maxRecDepth 20000
namespace Go.Bi
open Go.Proofs
open Go.Ai (wrap_i64 wrap_u64 wrap_u8)
variable {W0 : World}
theorem FnExactChoose_ok {F0 : Nat → Adr} {c : LConfig} {s : Int} {f2 : Adr} {z : List Int} {h : H2} (hf0 : fitConfig c)  (hf2 : z.length ≤ 9223372036854775807)  : WC2 Try.prog W0 13 [.st (xConfig F0 c), .raw (.int .u64 s), .sl f2 1 (ints z)] h (fun v h' => v = .raw (.bool true)) := by
  refine start (P := Try.prog) [[0, 1, 2], [1, 2, 3], [], [1, 2, 3], [1, 2, 3, 7], [1, 2, 3, 7], [], [1, 2, 3], [1, 2, 3, 8, 9, 10], [1, 2, 3, 8, 9, 10, 11], [1, 2, 3, 8, 9, 10, 11, 12], [2, 3, 8, 9, 10, 11, 12, 13, 14, 15], [], [2, 3, 11, 12], [], [2, 12], [], []] (by kernel_rfl) Try.func13 rfl (by decide) (by decide +kernel) (rs := [.tmp 6]) rfl rfl (Nat.le_of_ble_eq_true rfl) ?_
  intro wf
  repeat (first | rw [kz_o] | rw [kz_r0] | simp -dsimp -implicitDefEqProofs only [go_sem, Nat.reduceBEq, Nat.reduceAdd, Nat.reduceLeDiff, Nat.reduceMul, Int.reduceLE, Int.reduceLT, Int.reduceBEq])
  refine gz_dec (fun q1 => ?_) (fun q1 => ?_)
  · repeat (first | rw [kz_o] | rw [kz_r0] | simp -dsimp -implicitDefEqProofs only [go_sem, Nat.reduceBEq, Nat.reduceAdd, Nat.reduceLeDiff, Nat.reduceMul, Int.reduceLE, Int.reduceLT, Int.reduceBEq])
    rfl
  repeat (first | rw [kz_o] | rw [kz_r0] | simp -dsimp -implicitDefEqProofs only [go_sem, Nat.reduceBEq, Nat.reduceAdd, Nat.reduceLeDiff, Nat.reduceMul, Int.reduceLE, Int.reduceLT, Int.reduceBEq, hoo])
  refine pw_intro (szConfig_ok hf0 ⟨by omega, by omega⟩) ?_
  rintro _ n2 hn2 ⟨k2, rfl, hk2⟩
  have hm2 := hn2
  try simp only [hn_push, hn_up] at hm2
  repeat (first | rw [kz_o] | rw [kz_r0] | simp -dsimp -implicitDefEqProofs only [go_sem, Nat.reduceBEq, Nat.reduceAdd, Nat.reduceLeDiff, Nat.reduceMul, Int.reduceLE, Int.reduceLT, Int.reduceBEq, hoo])
  refine gz_dec (fun q3 => ?_) (fun q3 => ?_)
  · repeat (first | rw [kz_o] | rw [kz_r0] | simp -dsimp -implicitDefEqProofs only [go_sem, Nat.reduceBEq, Nat.reduceAdd, Nat.reduceLeDiff, Nat.reduceMul, Int.reduceLE, Int.reduceLT, Int.reduceBEq])
    rfl
  have hsz_c : szConfig c ≤ 1048576 := by omega
  have hln_c : c.stops.length ≤ 1048576 := by simp only [szConfig] at hsz_c; omega
  have hct_c : cntConfig c ≤ 16777216 := by simp only [cntConfig]; omega
  repeat (first | rw [kz_o] | rw [kz_r0] | simp -dsimp -implicitDefEqProofs only [go_sem, Nat.reduceBEq, Nat.reduceAdd, Nat.reduceLeDiff, Nat.reduceMul, Int.reduceLE, Int.reduceLT, Int.reduceBEq, hoo])
  refine wz_intro (toConfig_ok (by omega)) ?_
  rintro _ g4 ⟨l4, ys4, b4, rfl, o4, bl4⟩
  try simp only [hn_push, hn_up] at bl4
  have nn4 := l4.n
  try simp only [hn_push, hn_up] at nn4
  have LL4 : h.le g4 := H2.le.trans (by repeat (first | exact H2.le.refl _ | apply le_push | refine le_up ?_ (by assumption))) l4
  have ln4 := LL4.n
  have row0 : hg g4 (hn h .mk) .mk = some ⟨4, xConfig F0 c⟩ := (l4.2 (hn h .mk) (by simp only [hn_push, hn_up]; omega)).trans (by simp -dsimp -implicitDefEqProofs only [go_sem, Nat.reduceBEq, Nat.reduceAdd, Nat.reduceLeDiff, Nat.reduceMul, Int.reduceLE, Int.reduceLT, Int.reduceBEq, hoo])
  obtain ⟨b4_3, s4_3, rfl, rfl, o4_3⟩ := invConfig o4
  clear o4
  have bl4_3 := bl4
  have ce4_3 := OT.cell o4_3
  repeat (first | rw [kz_o] | rw [kz_r0] | simp -dsimp -implicitDefEqProofs only [go_sem, Nat.reduceBEq, Nat.reduceAdd, Nat.reduceLeDiff, Nat.reduceMul, Int.reduceLE, Int.reduceLT, Int.reduceBEq, ce4_3, row0, hoo])
  refine wz_intro (toIntS_new (by omega)) ?_
  rintro s5 g5 ⟨l5, b5, o5, bl5⟩
  try simp only [hn_push, hn_up] at bl5
  have nn5 := l5.n
  try simp only [hn_push, hn_up] at nn5
  have LL5 : g4.le g5 := H2.le.trans (by repeat (first | exact H2.le.refl _ | apply le_push | refine le_up ?_ (by assumption))) l5
  have ln5 := LL5.n
  replace o4_3 := o4_3.keep LL5 (bl4_3.wide (Nat.le_refl _) (by omega))
  replace row0 := (LL5.2 (hn h .mk) (by omega)).trans row0
  have ce5 := OT.cell o5
  repeat (first | rw [kz_o] | rw [kz_r0] | simp -dsimp -implicitDefEqProofs only [go_sem, Nat.reduceBEq, Nat.reduceAdd, Nat.reduceLeDiff, Nat.reduceMul, Int.reduceLE, Int.reduceLT, Int.reduceBEq, ce4_3, ce5, row0, hoo])
  refine wz_intro (specChoose_tree (outConfig (c := c) (o4_3.keep (by repeat (first | exact H2.le.refl _ | apply le_push | refine le_up ?_ (by assumption))) (bl4_3.wide (Nat.le_refl _) (by omega)))) (o5.keep (by repeat (first | exact H2.le.refl _ | apply le_push | refine le_up ?_ (by assumption))) (bl5.wide (Nat.le_refl _) (by omega))) hf0 (by omega)) ?_
  rintro _ g6 ⟨l6, rfl⟩
  have nn6 := l6.n
  try simp only [hn_push, hn_up] at nn6
  have LL6 : g5.le g6 := H2.le.trans (by repeat (first | exact H2.le.refl _ | apply le_push | refine le_up ?_ (by assumption))) l6
  have ln6 := LL6.n
  replace o4_3 := o4_3.keep LL6 (bl4_3.wide (Nat.le_refl _) (by omega))
  replace o5 := o5.keep LL6 (bl5.wide (Nat.le_refl _) (by omega))
  replace row0 := (LL6.2 (hn h .mk) (by omega)).trans row0
  repeat (first | rw [kz_o] | rw [kz_r0] | simp -dsimp -implicitDefEqProofs only [go_sem, Nat.reduceBEq, Nat.reduceAdd, Nat.reduceLeDiff, Nat.reduceMul, Int.reduceLE, Int.reduceLT, Int.reduceBEq, row0, hoo])
  refine wz_intro (toConfig_ok (by omega)) ?_
  rintro _ g7 ⟨l7, ys7, b7, rfl, o7, bl7⟩
  try simp only [hn_push, hn_up] at bl7
  have nn7 := l7.n
  try simp only [hn_push, hn_up] at nn7
  have LL7 : g6.le g7 := H2.le.trans (by repeat (first | exact H2.le.refl _ | apply le_push | refine le_up ?_ (by assumption))) l7
  have ln7 := LL7.n
  replace row0 := (LL7.2 (hn h .mk) (by omega)).trans row0
  obtain ⟨b7_3, s7_3, rfl, rfl, o7_3⟩ := invConfig o7
  clear o7
  have bl7_3 := bl7
  have ce7_3 := OT.cell o7_3
  have ne8 : ((hn h .mk) == (hn g7 .mk)) = false := by simp; omega
  have nf8 : ((hn g7 .mk) == (hn h .mk)) = false := by simp; omega
  repeat (first | rw [kz_o] | rw [kz_r0] | simp -dsimp -implicitDefEqProofs only [go_sem, Nat.reduceBEq, Nat.reduceAdd, Nat.reduceLeDiff, Nat.reduceMul, Int.reduceLE, Int.reduceLT, Int.reduceBEq, ce7_3, row0, ne8, nf8, hoo])
  refine wz_intro (toIntS_new (by omega)) ?_
  rintro s9 g9 ⟨l9, b9, o9, bl9⟩
  try simp only [hn_push, hn_up] at bl9
  have nn9 := l9.n
  try simp only [hn_push, hn_up] at nn9
  have LL9 : g7.le g9 := H2.le.trans (by repeat (first | exact H2.le.refl _ | apply le_push | refine le_up ?_ (by assumption))) l9
  have ln9 := LL9.n
  replace o7_3 := o7_3.keep LL9 (bl7_3.wide (Nat.le_refl _) (by omega))
  replace row0 := (LL9.2 (hn h .mk) (by omega)).trans row0
  have row1 : hg g9 (hn g7 .mk) .mk = some ⟨4, [.raw (.int .i64 c.top), .raw (.int .i64 c.seed), .raw (.int .i64 c.new), s7_3]⟩ := (l9.2 (hn g7 .mk) (by simp only [hn_push, hn_up]; omega)).trans (by simp -dsimp -implicitDefEqProofs only [go_sem, Nat.reduceBEq, Nat.reduceAdd, Nat.reduceLeDiff, Nat.reduceMul, Int.reduceLE, Int.reduceLT, Int.reduceBEq, ne8, nf8, ce7_3, row0, hoo])
  have ce9 := OT.cell o9
  repeat (first | rw [kz_o] | rw [kz_r0] | simp -dsimp -implicitDefEqProofs only [go_sem, Nat.reduceBEq, Nat.reduceAdd, Nat.reduceLeDiff, Nat.reduceMul, Int.reduceLE, Int.reduceLT, Int.reduceBEq, ne8, nf8, ce7_3, ce9, row0, row1, hoo])
  refine wz_intro (implChoose_tree (outConfig (c := c) (o7_3.keep (by repeat (first | exact H2.le.refl _ | apply le_push | refine le_up ?_ (by assumption))) (bl7_3.wide (Nat.le_refl _) (by omega)))) (o9.keep (by repeat (first | exact H2.le.refl _ | apply le_push | refine le_up ?_ (by assumption))) (bl9.wide (Nat.le_refl _) (by omega))) hf0 (by omega)) ?_
  rintro _ g10 ⟨l10, rfl⟩
  have nn10 := l10.n
  try simp only [hn_push, hn_up] at nn10
  have LL10 : g9.le g10 := H2.le.trans (by repeat (first | exact H2.le.refl _ | apply le_push | refine le_up ?_ (by assumption))) l10
  have ln10 := LL10.n
  replace o7_3 := o7_3.keep LL10 (bl7_3.wide (Nat.le_refl _) (by omega))
  replace o9 := o9.keep LL10 (bl9.wide (Nat.le_refl _) (by omega))
  replace row0 := (LL10.2 (hn h .mk) (by omega)).trans row0
  replace row1 := (LL10.2 (hn g7 .mk) (by omega)).trans row1
  repeat (first | rw [kz_o] | rw [kz_r0] | simp -dsimp -implicitDefEqProofs only [go_sem, Nat.reduceBEq, Nat.reduceAdd, Nat.reduceLeDiff, Nat.reduceMul, Int.reduceLE, Int.reduceLT, Int.reduceBEq, ne8, nf8, ce7_3, ce9, row0, row1, hoo])
  refine dq_intro [(0, []), (1, []), (2, [0]), (3, []), (4, [])] (by kernel_rfl) ?_
  repeat (first | rw [kz_o] | rw [kz_r0] | simp -dsimp -implicitDefEqProofs only [go_sem, Nat.reduceBEq, Nat.reduceAdd, Nat.reduceLeDiff, Nat.reduceMul, Int.reduceLE, Int.reduceLT, Int.reduceBEq, ne8, nf8, ce7_3, ce9, row0, row1, hoo])
  refine wz_intro (toConfig_ok (by omega)) ?_
  rintro _ g11 ⟨l11, ys11, b11, rfl, o11, bl11⟩
  try simp only [hn_push, hn_up] at bl11
  have nn11 := l11.n
  try simp only [hn_push, hn_up] at nn11
  have LL11 : g10.le g11 := H2.le.trans (by repeat (first | exact H2.le.refl _ | apply le_push | refine le_up ?_ (by assumption))) l11
  have ln11 := LL11.n
  replace o7_3 := o7_3.keep LL11 (bl7_3.wide (Nat.le_refl _) (by omega))
  replace o9 := o9.keep LL11 (bl9.wide (Nat.le_refl _) (by omega))
  replace row0 := (LL11.2 (hn h .mk) (by omega)).trans row0
  replace row1 := (LL11.2 (hn g7 .mk) (by omega)).trans row1
  obtain ⟨b11_3, s11_3, rfl, rfl, o11_3⟩ := invConfig o11
  clear o11
  have bl11_3 := bl11
  have ce11_3 := OT.cell o11_3
  rw [kz_r]
  refine ⟨by simp -dsimp -implicitDefEqProofs only [go_sem, Nat.reduceBEq, Nat.reduceAdd, Nat.reduceLeDiff, Nat.reduceMul, Int.reduceLE, Int.reduceLT, Int.reduceBEq, ne8, nf8, ce7_3, ce9, ce11_3, row0, row1, hoo], ?_⟩
  repeat (first | rw [kz_o] | rw [kz_r0] | simp -dsimp -implicitDefEqProofs only [go_sem, Nat.reduceBEq, Nat.reduceAdd, Nat.reduceLeDiff, Nat.reduceMul, Int.reduceLE, Int.reduceLT, Int.reduceBEq, ne8, nf8, ce7_3, ce9, ce11_3, row0, row1, hoo])
  refine pw_intro (eqConfig_tree (outConfig (c := c) (o7_3.keep (by repeat (first | exact H2.le.refl _ | apply le_push | refine le_up ?_ (by assumption))) (bl7_3.wide (Nat.le_refl _) (by omega)))) (outConfig (c := c) (o11_3.keep (by repeat (first | exact H2.le.refl _ | apply le_push | refine le_up ?_ (by assumption))) (bl11_3.wide (Nat.le_refl _) (by omega)))) hf0) ?_
  rintro _ n12 hn12 rfl
  have hm12 := hn12
  try simp only [hn_push, hn_up] at hm12
  repeat (first | rw [kz_o] | rw [kz_r0] | simp -dsimp -implicitDefEqProofs only [go_sem, Nat.reduceBEq, Nat.reduceAdd, Nat.reduceLeDiff, Nat.reduceMul, Int.reduceLE, Int.reduceLT, Int.reduceBEq, ne8, nf8, ce7_3, ce9, row0, row1, hoo])
  refine wz_intro (toIntS_new (by omega)) ?_
  rintro s13 g13 ⟨l13, b13, o13, bl13⟩
  try simp only [hn_push, hn_up] at bl13
  have nn13 := l13.n
  try simp only [hn_push, hn_up] at nn13
  have LL13 : g11.le g13 := H2.le.trans (by repeat (first | exact H2.le.refl _ | apply le_push | refine le_up ?_ (by assumption))) l13
  have ln13 := LL13.n
  replace o7_3 := o7_3.keep LL13 (bl7_3.wide (Nat.le_refl _) (by omega))
  replace o9 := o9.keep LL13 (bl9.wide (Nat.le_refl _) (by omega))
  replace row0 := (LL13.2 (hn h .mk) (by omega)).trans row0
  replace row1 := (LL13.2 (hn g7 .mk) (by omega)).trans row1
  have ce13 := OT.cell o13
  repeat (first | rw [kz_o] | rw [kz_r0] | simp -dsimp -implicitDefEqProofs only [go_sem, Nat.reduceBEq, Nat.reduceAdd, Nat.reduceLeDiff, Nat.reduceMul, Int.reduceLE, Int.reduceLT, Int.reduceBEq, ne8, nf8, ce7_3, ce9, ce13, row0, row1, hoo])
  refine pw_intro (eqIntS_tree (o9.keep (by repeat (first | exact H2.le.refl _ | apply le_push | refine le_up ?_ (by assumption))) (bl9.wide (Nat.le_refl _) (by omega))) (o13.keep (by repeat (first | exact H2.le.refl _ | apply le_push | refine le_up ?_ (by assumption))) (bl13.wide (Nat.le_refl _) (by omega))) (by omega)) ?_
  rintro _ n14 hn14 rfl
  have hm14 := hn14
  try simp only [hn_push, hn_up] at hm14
  repeat (first | rw [kz_o] | rw [kz_r0] | simp -dsimp -implicitDefEqProofs only [go_sem, Nat.reduceBEq, Nat.reduceAdd, Nat.reduceLeDiff, Nat.reduceMul, Int.reduceLE, Int.reduceLT, Int.reduceBEq, ne8, nf8, ce7_3, ce9, row0, row1, hoo])
  rfl
end Go.Bi
