/- Walks of what the laws use to measure, copy, compare, mark and look again at structs (Config:to, Table:to, Request:to, Ask:to). -/
import Derived.Test.YtjofbadmkigkjaaBd
set_option linter.unusedSimpArgs false
set_option linter.unusedVariables false
set_option maxRecDepth 20000
namespace Go.Bi
open Go.Proofs
open Go.Ai (wrap_i64 wrap_u64 wrap_u8)
variable {W0 : World}
theorem toConfig_ok {F : Nat → Adr} {c : LConfig} {h : H2} (hs : szConfig c ≤ 1048576) : NewS Try.prog W0 19 [.st (xConfig F c)] h (eConfig c) := by
  unfold szConfig at hs
  refine start (P := Try.prog) [[0], [1, 2], [1, 2, 3], [1, 2, 3], [1, 2, 3], [1, 2, 3], [2, 3]] (by kernel_rfl) Try.func19 rfl (by decide) (by decide +kernel) (rs := [.cell 2 26]) rfl rfl (Nat.le_of_ble_eq_true rfl) ?_
  intro wf
  repeat (first | rw [kz_o] | rw [kz_r0] | simp -dsimp -implicitDefEqProofs only [go_sem, Nat.reduceBEq, Nat.reduceAdd, Nat.reduceLeDiff, Nat.reduceMul, Int.reduceLE, Int.reduceLT, Int.reduceBEq])
  refine wz_intro (toStringS_new  (by omega)) ?_
  rintro s3 g3 ⟨l3, b3, o3, bl3⟩
  have ce3 := OT.cell o3
  have n3 := l3.n
  have a30 := l3.2 (hn h .mk) (by simp only [hn_push, hn_set]; omega)
  have a31 := l3.2 (hn h .mk + 1) (by simp only [hn_push, hn_set]; omega)
  have a32 := l3.2 (hn h .mk + 1 + 1) (by simp only [hn_push, hn_set]; omega)
  simp -dsimp -implicitDefEqProofs only [go_sem, Nat.reduceBEq, Nat.reduceAdd, Nat.reduceLeDiff, Nat.reduceMul, Int.reduceLE, Int.reduceLT, Int.reduceBEq, hoo] at n3 a30 a31 a32
  have L3 : h.le g3 := H2.le.trans (by repeat (first | exact H2.le.refl _ | apply le_push | refine le_set ?_ (by omega))) l3
  repeat (first | rw [kz_o] | rw [kz_r0] | simp -dsimp -implicitDefEqProofs only [go_sem, Nat.reduceBEq, Nat.reduceAdd, Nat.reduceLeDiff, Nat.reduceMul, Int.reduceLE, Int.reduceLT, Int.reduceBEq, a30, a31, a32, ce3])
  refine ⟨by repeat (first | exact L3 | refine le_set ?_ (by omega)), _, b3, rfl, outConfig (c := c) ?_, ?_⟩
  · refine OT.frame o3 fun b hb => ?_
    have hbl := bl3.2 b (hb)
    simp only [hn_push, hn_set] at hbl
    simp only [H2.set]
    rw [if_neg (by omega), if_neg (by omega)]
  · simp only [hn_set]
    have m3 := bl3
    simp only [hn_push, hn_set] at m3
    have := (m3).wide (N' := hn h .mk) (by omega) (Nat.le_refl _)
    simpa only [List.append_assoc] using this

theorem toTable_ok {F : Nat → Adr} {c : LTable} {h : H2} (hs : szTable c ≤ 1048576) : NewS Try.prog W0 135 [.st (xTable F c)] h (eTable c) := by
  unfold szTable at hs
  refine start (P := Try.prog) [[0], [1, 2], [1, 2, 3], [1, 2, 3], [2, 3]] (by kernel_rfl) Try.func135 rfl (by decide) (by decide +kernel) (rs := [.cell 2 167]) rfl rfl (Nat.le_of_ble_eq_true rfl) ?_
  intro wf
  repeat (first | rw [kz_o] | rw [kz_r0] | simp -dsimp -implicitDefEqProofs only [go_sem, Nat.reduceBEq, Nat.reduceAdd, Nat.reduceLeDiff, Nat.reduceMul, Int.reduceLE, Int.reduceLT, Int.reduceBEq])
  refine wz_intro (toIntS_new  (by omega)) ?_
  rintro s0 g0 ⟨l0, b0, o0, bl0⟩
  have ce0 := OT.cell o0
  have n0 := l0.n
  have a00 := l0.2 (hn h .mk) (by simp only [hn_push, hn_set]; omega)
  have a01 := l0.2 (hn h .mk + 1) (by simp only [hn_push, hn_set]; omega)
  have a02 := l0.2 (hn h .mk + 1 + 1) (by simp only [hn_push, hn_set]; omega)
  simp -dsimp -implicitDefEqProofs only [go_sem, Nat.reduceBEq, Nat.reduceAdd, Nat.reduceLeDiff, Nat.reduceMul, Int.reduceLE, Int.reduceLT, Int.reduceBEq, hoo] at n0 a00 a01 a02
  have L0 : h.le g0 := H2.le.trans (by repeat (first | exact H2.le.refl _ | apply le_push | refine le_set ?_ (by omega))) l0
  repeat (first | rw [kz_o] | rw [kz_r0] | simp -dsimp -implicitDefEqProofs only [go_sem, Nat.reduceBEq, Nat.reduceAdd, Nat.reduceLeDiff, Nat.reduceMul, Int.reduceLE, Int.reduceLT, Int.reduceBEq, a00, a01, a02, ce0])
  refine ⟨by repeat (first | exact L0 | refine le_set ?_ (by omega)), _, b0, rfl, outTable (c := c) ?_, ?_⟩
  · refine OT.frame o0 fun b hb => ?_
    have hbl := bl0.2 b (hb)
    simp only [hn_push, hn_set] at hbl
    simp only [H2.set]
    rw [if_neg (by omega), if_neg (by omega)]
  · simp only [hn_set]
    have m0 := bl0
    simp only [hn_push, hn_set] at m0
    have := (m0).wide (N' := hn h .mk) (by omega) (Nat.le_refl _)
    simpa only [List.append_assoc] using this

theorem toRequest_ok {F : Nat → Adr} {c : LRequest} {h : H2} (hs : szRequest c ≤ 1048576) : NewS Try.prog W0 110 [.st (xRequest F c)] h (eRequest c) := by
  unfold szRequest at hs
  refine start (P := Try.prog) [[0], [1, 2], [1, 2, 3], [1, 2, 3], [1, 2, 3], [1, 2, 3], [1, 2, 3], [1, 2, 3], [2, 3]] (by kernel_rfl) Try.func110 rfl (by decide) (by decide +kernel) (rs := [.cell 2 169]) rfl rfl (Nat.le_of_ble_eq_true rfl) ?_
  intro wf
  repeat (first | rw [kz_o] | rw [kz_r0] | simp -dsimp -implicitDefEqProofs only [go_sem, Nat.reduceBEq, Nat.reduceAdd, Nat.reduceLeDiff, Nat.reduceMul, Int.reduceLE, Int.reduceLT, Int.reduceBEq])
  refine wz_intro (toIntS_new  (by omega)) ?_
  rintro s1 g1 ⟨l1, b1, o1, bl1⟩
  have ce1 := OT.cell o1
  have n1 := l1.n
  have a10 := l1.2 (hn h .mk) (by simp only [hn_push, hn_set]; omega)
  have a11 := l1.2 (hn h .mk + 1) (by simp only [hn_push, hn_set]; omega)
  have a12 := l1.2 (hn h .mk + 1 + 1) (by simp only [hn_push, hn_set]; omega)
  simp -dsimp -implicitDefEqProofs only [go_sem, Nat.reduceBEq, Nat.reduceAdd, Nat.reduceLeDiff, Nat.reduceMul, Int.reduceLE, Int.reduceLT, Int.reduceBEq, hoo] at n1 a10 a11 a12
  have L1 : h.le g1 := H2.le.trans (by repeat (first | exact H2.le.refl _ | apply le_push | refine le_set ?_ (by omega))) l1
  repeat (first | rw [kz_o] | rw [kz_r0] | simp -dsimp -implicitDefEqProofs only [go_sem, Nat.reduceBEq, Nat.reduceAdd, Nat.reduceLeDiff, Nat.reduceMul, Int.reduceLE, Int.reduceLT, Int.reduceBEq, a10, a11, a12, ce1])
  refine wz_intro (toConfig_ok (F := fun j => F (j + 2)) (by omega)) ?_
  rintro _ g2 ⟨l2, ys2, b2, rfl, o2, bl2⟩
  obtain ⟨b2_3, s5, rfl, hb2, o2_3⟩ := invConfig o2
  have ce5 := OT.cell o2_3
  have n2 := l2.n
  have a20 := l2.2 (hn h .mk) (by simp only [hn_push, hn_set]; omega)
  have a21 := l2.2 (hn h .mk + 1) (by simp only [hn_push, hn_set]; omega)
  have a22 := l2.2 (hn h .mk + 1 + 1) (by simp only [hn_push, hn_set]; omega)
  simp -dsimp -implicitDefEqProofs only [go_sem, Nat.reduceBEq, Nat.reduceAdd, Nat.reduceLeDiff, Nat.reduceMul, Int.reduceLE, Int.reduceLT, Int.reduceBEq, a10, a11, a12, hoo] at n2 a20 a21 a22
  have L2 : h.le g2 := H2.le.trans (by repeat (first | exact L1 | exact H2.le.refl _ | apply le_push | refine le_set ?_ (by omega))) l2
  repeat (first | rw [kz_o] | rw [kz_r0] | simp -dsimp -implicitDefEqProofs only [go_sem, Nat.reduceBEq, Nat.reduceAdd, Nat.reduceLeDiff, Nat.reduceMul, Int.reduceLE, Int.reduceLT, Int.reduceBEq, a20, a21, a22, ce1, ce5])
  refine wz_intro (toTable_ok (F := fun j => F (j + 7)) (by omega)) ?_
  rintro _ g4 ⟨l4, ys4, b4, rfl, o4, bl4⟩
  obtain ⟨b4_0, s7, rfl, hb4, o4_0⟩ := invTable o4
  have ce7 := OT.cell o4_0
  have n4 := l4.n
  have a40 := l4.2 (hn h .mk) (by simp only [hn_push, hn_set]; omega)
  have a41 := l4.2 (hn h .mk + 1) (by simp only [hn_push, hn_set]; omega)
  have a42 := l4.2 (hn h .mk + 1 + 1) (by simp only [hn_push, hn_set]; omega)
  simp -dsimp -implicitDefEqProofs only [go_sem, Nat.reduceBEq, Nat.reduceAdd, Nat.reduceLeDiff, Nat.reduceMul, Int.reduceLE, Int.reduceLT, Int.reduceBEq, a20, a21, a22, hoo] at n4 a40 a41 a42
  have L4 : h.le g4 := H2.le.trans (by repeat (first | exact L2 | exact H2.le.refl _ | apply le_push | refine le_set ?_ (by omega))) l4
  repeat (first | rw [kz_o] | rw [kz_r0] | simp -dsimp -implicitDefEqProofs only [go_sem, Nat.reduceBEq, Nat.reduceAdd, Nat.reduceLeDiff, Nat.reduceMul, Int.reduceLE, Int.reduceLT, Int.reduceBEq, a40, a41, a42, ce1, ce5, ce7])
  refine ⟨by repeat (first | exact L4 | refine le_set ?_ (by omega)), _, b1 ++ (b2_3 ++ b4_0), rfl, outRequest (c := c) ?_ ?_ ?_, ?_⟩
  · refine OT.frame o1 fun b hb => ?_
    have hbl := bl1.2 b (hb)
    simp only [hn_push, hn_set] at hbl
    simp only [H2.set]
    rw [if_neg (by omega), if_neg (by omega)]
    rw [show g4.get b = _ from l4.2 b (by simp only [hn_set]; omega)]
    simp only [hg, H2.set]
    rw [if_neg (by omega)]
    rw [show g2.get b = _ from l2.2 b (by simp only [hn_set]; omega)]
    simp only [hg, H2.set]
    rw [if_neg (by omega)]
  · refine OT.frame o2_3 fun b hb => ?_
    have hbl := bl2.2 b (by rw [hb2]; simp [hb])
    simp only [hn_push, hn_set] at hbl
    simp only [H2.set]
    rw [if_neg (by omega), if_neg (by omega)]
    rw [show g4.get b = _ from l4.2 b (by simp only [hn_set]; omega)]
    simp only [hg, H2.set]
    rw [if_neg (by omega)]
  · refine OT.frame o4_0 fun b hb => ?_
    have hbl := bl4.2 b (by rw [hb4]; simp [hb])
    simp only [hn_push, hn_set] at hbl
    simp only [H2.set]
    rw [if_neg (by omega), if_neg (by omega)]
  · simp only [hn_set]
    have m1 := bl1
    simp only [hn_push, hn_set] at m1
    have m2 := bl2
    simp only [hn_push, hn_set] at m2
    rw [hb2] at m2
    have m4 := bl4
    simp only [hn_push, hn_set] at m4
    rw [hb4] at m4
    have := ((Bl.append m1 (Bl.append m2 m4 (by omega) (by omega)) (by omega) (by omega))).wide (N' := hn h .mk) (by omega) (Nat.le_refl _)
    simpa only [List.append_assoc] using this

end Go.Bi
