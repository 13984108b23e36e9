/- Walks of what the laws use to measure, copy, compare, mark and look again at structs (Config:mark, Table:mark, Request:mark, Ask:mark). -/
import Derived.Test.YtdakdjpndomdpaaBe
set_option linter.unusedSimpArgs false
set_option linter.unusedVariables false
set_option maxRecDepth 20000
namespace Go.Bi
open Go.Proofs
open Go.Ai (wrap_i64 wrap_u64 wrap_u8)
variable {W0 : World}
theorem heldConfig_ok {c : LConfig} {k0 k1 : Int} (h3 : ∀ f g, PW Try.prog W0 121 [.sl f 1 (strs c.stops), .raw (.int .i64 k0)] g (fun y => y = .raw (.int .i64 k1))) (p1 : 0 ≤ k1) : ∀ F g, PW Try.prog W0 97 [.st (xConfig F c), .raw (.int .i64 k0)] g (fun y => y = .raw (.int .i64 k1)) := by
  intro F h
  refine PW.scalar ?_
  refine start (P := Try.prog) [[0, 1], [1, 2], [1], [], [1]] (by kernel_rfl) Try.func97 rfl (by decide) (by decide +kernel) (rs := [.tmp 4]) rfl rfl (Nat.le_of_ble_eq_true rfl) ?_
  intro wf
  have q1 : ¬ k1 < 0 := by omega
  repeat (first | rw [kz_o] | rw [kz_r0] | simp -dsimp -implicitDefEqProofs only [go_sem, Nat.reduceBEq, Nat.reduceAdd, Nat.reduceLeDiff, Nat.reduceMul, Int.reduceLE, Int.reduceLT, Int.reduceBEq])
  refine pw_intro (h3 _ _) ?_
  rintro _ n3 hn3 rfl
  repeat (first | rw [kz_o] | rw [kz_r0] | simp -dsimp -implicitDefEqProofs only [go_sem, Nat.reduceBEq, Nat.reduceAdd, Nat.reduceLeDiff, Nat.reduceMul, Int.reduceLE, Int.reduceLT, Int.reduceBEq, q1])
  exact ⟨by repeat (first | exact H2.le.refl _ | apply le_push | refine le_up ?_ (by assumption)), ⟨_, rfl⟩, rfl⟩
theorem markConfig_ok {N : Nat} {c : LConfig} {h : H2} {k0 : Int} {b3 : List Nat} {s3 : X} (o3 : OT h b3 s3 (.l 1 (strs c.stops))) (bl : Bl N (hn h .mk) b3) (hk : 0 ≤ k0 ∧ k0 + cntConfig c ≤ 4611686018427387904) : WC2 Try.prog W0 79 [.st [.raw (.int .i64 c.top), .raw (.int .i64 c.seed), .raw (.int .i64 c.new), s3], .raw (.int .i64 k0)] h (fun r h' => ∃ (k1 : Int) (z3 : List ByteArray), r = .raw (.int .i64 k1) ∧ k0 ≤ k1 ∧ k1 ≤ k0 + cntConfig c ∧ (OT h' b3 s3 (.l 1 (strs z3))) ∧ (∀ F g, PW Try.prog W0 97 [.st (xConfig F { c with stops := z3 }), .raw (.int .i64 k0)] g (fun y => y = .raw (.int .i64 k1))) ∧ hn h .mk ≤ hn h' .mk ∧ ∀ b, b < hn h .mk → b ∉ b3 → h'.get b = h.get b) := by
  unfold cntConfig at *
  have bl0 := bl
  have lj3 := bl0
  refine start (P := Try.prog) [[0, 1], [1, 2], [1]] (by kernel_rfl) Try.func79 rfl (by decide) (by decide +kernel) (rs := [.tmp 4]) rfl rfl (Nat.le_of_ble_eq_true rfl) ?_
  intro wf
  repeat (first | rw [kz_o] | rw [kz_r0] | simp -dsimp -implicitDefEqProofs only [go_sem, Nat.reduceBEq, Nat.reduceAdd, Nat.reduceLeDiff, Nat.reduceMul, Int.reduceLE, Int.reduceLT, Int.reduceBEq])
  replace o3 := fun k => OT.keep o3 (H2.le_push1 h k) lj3
  refine wz_intro (markStringS_tree (o3 _) (bl0.wide (Nat.le_refl _) (by simp only [hn_push]; omega)) ⟨by omega, by omega⟩) ?_
  rintro _ g3 ⟨k1, z3, rfl, lo3, hi3, d3, hd3, n3, fr3⟩
  simp only [hn_push] at n3
  have a3 : hg g3 (hn h .mk) .mk = _ := fr3 (hn h .mk) (by simp only [hn_push]; omega) (fun hb => by have := (bl0.2 _ hb).2; omega)
  replace a3 : hg g3 (hn h .mk) .mk = hg (h.push _) (hn h .mk) .mk := a3
  simp -dsimp -implicitDefEqProofs only [go_sem, Nat.reduceBEq, Nat.reduceAdd, Nat.reduceLeDiff, Nat.reduceMul, Int.reduceLE, Int.reduceLT, Int.reduceBEq, hoo] at a3
  repeat (first | rw [kz_o] | rw [kz_r0] | simp -dsimp -implicitDefEqProofs only [go_sem, Nat.reduceBEq, Nat.reduceAdd, Nat.reduceLeDiff, Nat.reduceMul, Int.reduceLE, Int.reduceLT, Int.reduceBEq, a3])
  refine ⟨k1, z3, rfl, by omega, by omega, d3, heldConfig_ok hd3 (by omega), by omega, fun b hb hnb => ?_⟩
  rw [fr3 b (by simp only [hn_push]; omega) hnb]
  simp only [H2.push]; rw [if_neg (by unfold hn at hb; omega)]

theorem markTable_ok {N : Nat} {c : LTable} {h : H2} {k0 : Int} {b0 : List Nat} {s0 : X} (o0 : OT h b0 s0 (.l 1 (ints c.pages))) (bl : Bl N (hn h .mk) b0) (hk : 0 ≤ k0 ∧ k0 + cntTable c ≤ 4611686018427387904) : WC2 Try.prog W0 80 [.st [s0, .raw (.int .i64 c.count)], .raw (.int .i64 k0)] h (fun r h' => ∃ (k1 : Int) (z0 : List Int), r = .raw (.int .i64 k1) ∧ k0 ≤ k1 ∧ k1 ≤ k0 + cntTable c ∧ (OT h' b0 s0 (.l 1 (ints z0))) ∧ hn h .mk ≤ hn h' .mk ∧ ∀ b, b < hn h .mk → b ∉ b0 → h'.get b = h.get b) := by
  unfold cntTable at *
  have bl0 := bl
  have lj0 := bl0
  refine start (P := Try.prog) [[0, 1], [1, 2], [1]] (by kernel_rfl) Try.func80 rfl (by decide) (by decide +kernel) (rs := [.tmp 4]) rfl rfl (Nat.le_of_ble_eq_true rfl) ?_
  intro wf
  repeat (first | rw [kz_o] | rw [kz_r0] | simp -dsimp -implicitDefEqProofs only [go_sem, Nat.reduceBEq, Nat.reduceAdd, Nat.reduceLeDiff, Nat.reduceMul, Int.reduceLE, Int.reduceLT, Int.reduceBEq])
  replace o0 := fun k => OT.keep o0 (H2.le_push1 h k) lj0
  refine wz_intro (markIntS_tree (o0 _) (bl0.wide (Nat.le_refl _) (by simp only [hn_push]; omega)) ⟨by omega, by omega⟩) ?_
  rintro _ g0 ⟨k1, z0, rfl, lo0, hi0, d0, hd0, n0, fr0⟩
  simp only [hn_push] at n0
  have a0 : hg g0 (hn h .mk) .mk = _ := fr0 (hn h .mk) (by simp only [hn_push]; omega) (fun hb => by have := (bl0.2 _ hb).2; omega)
  replace a0 : hg g0 (hn h .mk) .mk = hg (h.push _) (hn h .mk) .mk := a0
  simp -dsimp -implicitDefEqProofs only [go_sem, Nat.reduceBEq, Nat.reduceAdd, Nat.reduceLeDiff, Nat.reduceMul, Int.reduceLE, Int.reduceLT, Int.reduceBEq, hoo] at a0
  repeat (first | rw [kz_o] | rw [kz_r0] | simp -dsimp -implicitDefEqProofs only [go_sem, Nat.reduceBEq, Nat.reduceAdd, Nat.reduceLeDiff, Nat.reduceMul, Int.reduceLE, Int.reduceLT, Int.reduceBEq, a0])
  refine ⟨k1, z0, rfl, by omega, by omega, d0, by omega, fun b hb hnb => ?_⟩
  rw [fr0 b (by simp only [hn_push]; omega) hnb]
  simp only [H2.push]; rw [if_neg (by unfold hn at hb; omega)]

theorem markRequest_ok {N : Nat} {c : LRequest} {h : H2} {k0 : Int} {b1 b5 b7 : List Nat} {s1 s5 s7 : X} (o1 : OT h b1 s1 (.l 1 (ints c.tokens))) (o5 : OT h b5 s5 (.l 1 (strs c.config.stops))) (o7 : OT h b7 s7 (.l 1 (ints c.table.pages))) (bl : Bl N (hn h .mk) (b1 ++ (b5 ++ b7))) (hk : 0 ≤ k0 ∧ k0 + cntRequest c ≤ 4611686018427387904) : WC2 Try.prog W0 39 [.st [.raw (.int .i64 c.prompt), s1, .raw (.int .i64 c.config.top), .raw (.int .i64 c.config.seed), .raw (.int .i64 c.config.new), s5, .raw (.int .u64 c.state), s7, .raw (.int .i64 c.table.count), .raw (.int .i64 c.status)], .raw (.int .i64 k0)] h (fun r h' => ∃ (k1 : Int) (z1 : List Int) (z5 : List ByteArray) (z7 : List Int), r = .raw (.int .i64 k1) ∧ k0 ≤ k1 ∧ k1 ≤ k0 + cntRequest c ∧ (OT h' b1 s1 (.l 1 (ints z1)) ∧ OT h' b5 s5 (.l 1 (strs z5)) ∧ OT h' b7 s7 (.l 1 (ints z7))) ∧ hn h .mk ≤ hn h' .mk ∧ ∀ b, b < hn h .mk → b ∉ (b1 ++ (b5 ++ b7)) → h'.get b = h.get b) := by
  unfold cntRequest at *
  obtain ⟨bl0, rb0, D0⟩ := bl.split
  obtain ⟨bl1, rb1, D1⟩ := rb0.split
  have bl2 := rb1
  have lj1 := bl0
  have lj5 := bl1
  have lj7 := bl2
  refine start (P := Try.prog) [[0, 1], [1, 2], [1, 2], [1, 2], [1]] (by kernel_rfl) Try.func39 rfl (by decide) (by decide +kernel) (rs := [.tmp 4]) rfl rfl (Nat.le_of_ble_eq_true rfl) ?_
  intro wf
  repeat (first | rw [kz_o] | rw [kz_r0] | simp -dsimp -implicitDefEqProofs only [go_sem, Nat.reduceBEq, Nat.reduceAdd, Nat.reduceLeDiff, Nat.reduceMul, Int.reduceLE, Int.reduceLT, Int.reduceBEq])
  replace o1 := fun k => OT.keep o1 (H2.le_push1 h k) lj1
  replace o5 := fun k => OT.keep o5 (H2.le_push1 h k) lj5
  replace o7 := fun k => OT.keep o7 (H2.le_push1 h k) lj7
  refine wz_intro (markIntS_tree (o1 _) (bl0.wide (Nat.le_refl _) (by simp only [hn_push]; omega)) ⟨by omega, by omega⟩) ?_
  rintro _ g1 ⟨k1, z1, rfl, lo1, hi1, d1, hd1, n1, fr1⟩
  simp only [hn_push] at n1
  have a1 : hg g1 (hn h .mk) .mk = _ := fr1 (hn h .mk) (by simp only [hn_push]; omega) (fun hb => by have := (bl0.2 _ hb).2; omega)
  replace a1 : hg g1 (hn h .mk) .mk = hg (h.push _) (hn h .mk) .mk := a1
  simp -dsimp -implicitDefEqProofs only [go_sem, Nat.reduceBEq, Nat.reduceAdd, Nat.reduceLeDiff, Nat.reduceMul, Int.reduceLE, Int.reduceLT, Int.reduceBEq, hoo] at a1
  replace o5 := OT.frame (g' := g1) (o5 _) fun b hb => fr1 b (by have := (lj5.2 b hb).2; simp only [hn_push]; omega) (fun hx => D0 b hx (by simp [hb]))
  replace o7 := OT.frame (g' := g1) (o7 _) fun b hb => fr1 b (by have := (lj7.2 b hb).2; simp only [hn_push]; omega) (fun hx => D0 b hx (by simp [hb]))
  repeat (first | rw [kz_o] | rw [kz_r0] | simp -dsimp -implicitDefEqProofs only [go_sem, Nat.reduceBEq, Nat.reduceAdd, Nat.reduceLeDiff, Nat.reduceMul, Int.reduceLE, Int.reduceLT, Int.reduceBEq, a1])
  refine wz_intro (markConfig_ok (c := c.config) (o5) (bl1.wide (Nat.le_refl _) (by omega)) ⟨by omega, by omega⟩) ?_
  rintro _ g2 ⟨k2, z5, rfl, lo2, hi2, d5, hd2, n2, fr2⟩
  have a2 : hg g2 (hn h .mk) .mk = _ := fr2 (hn h .mk) (by omega) (fun hb => by have := (bl1.2 _ hb).2; omega)
  replace a2 : hg g2 (hn h .mk) .mk = hg g1 (hn h .mk) .mk := a2
  simp -dsimp -implicitDefEqProofs only [go_sem, Nat.reduceBEq, Nat.reduceAdd, Nat.reduceLeDiff, Nat.reduceMul, Int.reduceLE, Int.reduceLT, Int.reduceBEq, hoo, a1] at a2
  replace d1 := OT.frame (g' := g2) d1 fun b hb => fr2 b (by have := (lj1.2 b hb).2; omega) (fun hx => D0 b (by simp [hb]) (by simp [hx]))
  replace o7 := OT.frame (g' := g2) (o7) fun b hb => fr2 b (by have := (lj7.2 b hb).2; omega) (fun hx => D1 b hx (by simp [hb]))
  repeat (first | rw [kz_o] | rw [kz_r0] | simp -dsimp -implicitDefEqProofs only [go_sem, Nat.reduceBEq, Nat.reduceAdd, Nat.reduceLeDiff, Nat.reduceMul, Int.reduceLE, Int.reduceLT, Int.reduceBEq, a2])
  refine wz_intro (markTable_ok (c := c.table) (o7) (bl2.wide (Nat.le_refl _) (by omega)) ⟨by omega, by omega⟩) ?_
  rintro _ g4 ⟨k3, z7, rfl, lo4, hi4, d7, n4, fr4⟩
  have a4 : hg g4 (hn h .mk) .mk = _ := fr4 (hn h .mk) (by omega) (fun hb => by have := (bl2.2 _ hb).2; omega)
  replace a4 : hg g4 (hn h .mk) .mk = hg g2 (hn h .mk) .mk := a4
  simp -dsimp -implicitDefEqProofs only [go_sem, Nat.reduceBEq, Nat.reduceAdd, Nat.reduceLeDiff, Nat.reduceMul, Int.reduceLE, Int.reduceLT, Int.reduceBEq, hoo, a2] at a4
  replace d1 := OT.frame (g' := g4) d1 fun b hb => fr4 b (by have := (lj1.2 b hb).2; omega) (fun hx => D0 b (by simp [hb]) (by simp [hx]))
  replace d5 := OT.frame (g' := g4) d5 fun b hb => fr4 b (by have := (lj5.2 b hb).2; omega) (fun hx => D1 b (by simp [hb]) (by simp [hx]))
  repeat (first | rw [kz_o] | rw [kz_r0] | simp -dsimp -implicitDefEqProofs only [go_sem, Nat.reduceBEq, Nat.reduceAdd, Nat.reduceLeDiff, Nat.reduceMul, Int.reduceLE, Int.reduceLT, Int.reduceBEq, a4])
  refine ⟨k3, z1, z5, z7, rfl, by omega, by omega, ⟨d1, d5, d7⟩, by omega, fun b hb hnb => ?_⟩
  simp only [List.mem_append, not_or] at hnb
  rw [fr4 b (by omega) hnb.2.2]
  rw [fr2 b (by omega) hnb.2.1]
  rw [fr1 b (by simp only [hn_push]; omega) hnb.1]
  simp only [H2.push]; rw [if_neg (by unfold hn at hb; omega)]

theorem heldAsk_ok {c : LAsk} {k0 k1 k2 : Int} (h3 : ∀ F g, PW Try.prog W0 97 [.st (xConfig F c.config), .raw (.int .i64 k0)] g (fun y => y = .raw (.int .i64 k1))) (h4 : ∀ f g, PW Try.prog W0 31 [.sl f 1 (ints c.picks), .raw (.int .i64 k1)] g (fun y => y = .raw (.int .i64 k2))) (p1 : 0 ≤ k1) (p2 : 0 ≤ k2) : ∀ F g, PW Try.prog W0 51 [.st (xAsk F c), .raw (.int .i64 k0)] g (fun y => y = .raw (.int .i64 k2)) := by
  intro F h
  refine PW.scalar ?_
  refine start (P := Try.prog) [[0, 1], [1, 2], [1, 2], [], [1, 2], [1], [], [1]] (by kernel_rfl) Try.func51 rfl (by decide) (by decide +kernel) (rs := [.tmp 4]) rfl rfl (Nat.le_of_ble_eq_true rfl) ?_
  intro wf
  have q1 : ¬ k1 < 0 := by omega
  have q2 : ¬ k2 < 0 := by omega
  repeat (first | rw [kz_o] | rw [kz_r0] | simp -dsimp -implicitDefEqProofs only [go_sem, Nat.reduceBEq, Nat.reduceAdd, Nat.reduceLeDiff, Nat.reduceMul, Int.reduceLE, Int.reduceLT, Int.reduceBEq])
  refine pw_intro (h3 (fun j => F (j + 3)) _) ?_
  rintro _ n3 hn3 rfl
  repeat (first | rw [kz_o] | rw [kz_r0] | simp -dsimp -implicitDefEqProofs only [go_sem, Nat.reduceBEq, Nat.reduceAdd, Nat.reduceLeDiff, Nat.reduceMul, Int.reduceLE, Int.reduceLT, Int.reduceBEq, q1])
  refine pw_intro (h4 _ _) ?_
  rintro _ n4 hn4 rfl
  repeat (first | rw [kz_o] | rw [kz_r0] | simp -dsimp -implicitDefEqProofs only [go_sem, Nat.reduceBEq, Nat.reduceAdd, Nat.reduceLeDiff, Nat.reduceMul, Int.reduceLE, Int.reduceLT, Int.reduceBEq, q2])
  exact ⟨by repeat (first | exact H2.le.refl _ | apply le_push | refine le_up ?_ (by assumption)), ⟨_, rfl⟩, rfl⟩
theorem markAsk_ok {N : Nat} {c : LAsk} {h : H2} {k0 : Int} {b6 b7 : List Nat} {s6 s7 : X} (o6 : OT h b6 s6 (.l 1 (strs c.config.stops))) (o7 : OT h b7 s7 (.l 1 (ints c.picks))) (bl : Bl N (hn h .mk) (b6 ++ b7)) (hk : 0 ≤ k0 ∧ k0 + cntAsk c ≤ 4611686018427387904) : WC2 Try.prog W0 50 [.st [.raw (.int .i64 c.op), .raw (.string c.text), .raw (.int .i64 c.pos), .raw (.int .i64 c.config.top), .raw (.int .i64 c.config.seed), .raw (.int .i64 c.config.new), s6, s7], .raw (.int .i64 k0)] h (fun r h' => ∃ (k1 : Int) (z6 : List ByteArray) (z7 : List Int), r = .raw (.int .i64 k1) ∧ k0 ≤ k1 ∧ k1 ≤ k0 + cntAsk c ∧ (OT h' b6 s6 (.l 1 (strs z6)) ∧ OT h' b7 s7 (.l 1 (ints z7))) ∧ (∀ F g, PW Try.prog W0 51 [.st (xAsk F { c with config := { c.config with stops := z6 }, picks := z7 }), .raw (.int .i64 k0)] g (fun y => y = .raw (.int .i64 k1))) ∧ hn h .mk ≤ hn h' .mk ∧ ∀ b, b < hn h .mk → b ∉ (b6 ++ b7) → h'.get b = h.get b) := by
  unfold cntAsk at *
  obtain ⟨bl0, rb0, D0⟩ := bl.split
  have bl1 := rb0
  have lj6 := bl0
  have lj7 := bl1
  refine start (P := Try.prog) [[0, 1], [1, 2], [1, 2], [1]] (by kernel_rfl) Try.func50 rfl (by decide) (by decide +kernel) (rs := [.tmp 4]) rfl rfl (Nat.le_of_ble_eq_true rfl) ?_
  intro wf
  repeat (first | rw [kz_o] | rw [kz_r0] | simp -dsimp -implicitDefEqProofs only [go_sem, Nat.reduceBEq, Nat.reduceAdd, Nat.reduceLeDiff, Nat.reduceMul, Int.reduceLE, Int.reduceLT, Int.reduceBEq])
  replace o6 := fun k => OT.keep o6 (H2.le_push1 h k) lj6
  replace o7 := fun k => OT.keep o7 (H2.le_push1 h k) lj7
  refine wz_intro (markConfig_ok (c := c.config) (o6 _) (bl0.wide (Nat.le_refl _) (by simp only [hn_push]; omega)) ⟨by omega, by omega⟩) ?_
  rintro _ g3 ⟨k1, z6, rfl, lo3, hi3, d6, hd3, n3, fr3⟩
  simp only [hn_push] at n3
  have a3 : hg g3 (hn h .mk) .mk = _ := fr3 (hn h .mk) (by simp only [hn_push]; omega) (fun hb => by have := (bl0.2 _ hb).2; omega)
  replace a3 : hg g3 (hn h .mk) .mk = hg (h.push _) (hn h .mk) .mk := a3
  simp -dsimp -implicitDefEqProofs only [go_sem, Nat.reduceBEq, Nat.reduceAdd, Nat.reduceLeDiff, Nat.reduceMul, Int.reduceLE, Int.reduceLT, Int.reduceBEq, hoo] at a3
  replace o7 := OT.frame (g' := g3) (o7 _) fun b hb => fr3 b (by have := (lj7.2 b hb).2; simp only [hn_push]; omega) (fun hx => D0 b hx (by simp [hb]))
  repeat (first | rw [kz_o] | rw [kz_r0] | simp -dsimp -implicitDefEqProofs only [go_sem, Nat.reduceBEq, Nat.reduceAdd, Nat.reduceLeDiff, Nat.reduceMul, Int.reduceLE, Int.reduceLT, Int.reduceBEq, a3])
  refine wz_intro (markIntS_tree (o7) (bl1.wide (Nat.le_refl _) (by omega)) ⟨by omega, by omega⟩) ?_
  rintro _ g4 ⟨k2, z7, rfl, lo4, hi4, d7, hd4, n4, fr4⟩
  have a4 : hg g4 (hn h .mk) .mk = _ := fr4 (hn h .mk) (by omega) (fun hb => by have := (bl1.2 _ hb).2; omega)
  replace a4 : hg g4 (hn h .mk) .mk = hg g3 (hn h .mk) .mk := a4
  simp -dsimp -implicitDefEqProofs only [go_sem, Nat.reduceBEq, Nat.reduceAdd, Nat.reduceLeDiff, Nat.reduceMul, Int.reduceLE, Int.reduceLT, Int.reduceBEq, hoo, a3] at a4
  replace d6 := OT.frame (g' := g4) d6 fun b hb => fr4 b (by have := (lj6.2 b hb).2; omega) (fun hx => D0 b (by simp [hb]) (by simp [hx]))
  repeat (first | rw [kz_o] | rw [kz_r0] | simp -dsimp -implicitDefEqProofs only [go_sem, Nat.reduceBEq, Nat.reduceAdd, Nat.reduceLeDiff, Nat.reduceMul, Int.reduceLE, Int.reduceLT, Int.reduceBEq, a4])
  refine ⟨k2, z6, z7, rfl, by omega, by omega, ⟨d6, d7⟩, heldAsk_ok hd3 hd4 (by omega) (by omega), by omega, fun b hb hnb => ?_⟩
  simp only [List.mem_append, not_or] at hnb
  rw [fr4 b (by omega) hnb.2]
  rw [fr3 b (by simp only [hn_push]; omega) hnb.1]
  simp only [H2.push]; rw [if_neg (by unfold hn at hb; omega)]

end Go.Bi
