/- The walk of the law on FnExactReadAsk. -/
import Derived.Test.YtdakdjpndomdpaaEh
set_option linter.unusedSimpArgs false
set_option linter.unusedVariables false
set_option maxRecDepth 20000
namespace Go.Bi
open Go.Proofs
open Go.Ai (wrap_i64 wrap_u64 wrap_u8)
variable {W0 : World}
theorem FnExactReadAsk_ok {s : ByteArray} {h : H2}   : WC2 Try.prog W0 12 [.raw (.string s)] h (fun v h' => v = .raw (.bool true)) := by
  refine start (P := Try.prog) [[0], [0], [], [0], [0, 3, 4], [0, 3, 4, 5, 6], [], [0, 3, 4, 5], [0, 3, 4, 5, 7], [0, 3, 4, 5, 7], [0, 3, 4, 5, 7, 8], [0, 3, 4, 5, 7, 8], [], [0, 3, 4, 5, 7, 8], [], [0, 3, 4, 5, 7], [3, 4, 5, 7, 9, 10], [], [5, 7], [5, 7, 8], [7, 8], [], [7, 8], [], []] (by kernel_rfl) Try.func12 rfl (by decide) (by decide +kernel) (rs := [.tmp 2]) rfl rfl (Nat.le_of_ble_eq_true rfl) ?_
  intro wf
  repeat (first | rw [kz_o] | rw [kz_r0] | simp -dsimp -implicitDefEqProofs only [go_sem, Nat.reduceBEq, Nat.reduceAdd, Nat.reduceLeDiff, Nat.reduceMul, Int.reduceLE, Int.reduceLT, Int.reduceBEq])
  refine gz_dec (fun q1 => ?_) (fun q1 => ?_)
  · repeat (first | rw [kz_o] | rw [kz_r0] | simp -dsimp -implicitDefEqProofs only [go_sem, Nat.reduceBEq, Nat.reduceAdd, Nat.reduceLeDiff, Nat.reduceMul, Int.reduceLE, Int.reduceLT, Int.reduceBEq])
    rfl
  have hft := (readAsk_fit (s := s)).1
  have hln1 := (readAsk_fit (s := s)).2.1
  have hln2 := (readAsk_fit (s := s)).2.2
  have hct : cntAsk (readAsk s).1 ≤ 16777216 := by simp only [cntAsk, cntConfig]; omega
  repeat (first | rw [kz_o] | rw [kz_r0] | simp -dsimp -implicitDefEqProofs only [go_sem, Nat.reduceBEq, Nat.reduceAdd, Nat.reduceLeDiff, Nat.reduceMul, Int.reduceLE, Int.reduceLT, Int.reduceBEq, hoo])
  refine wz_intro (specReadAsk_ok  (by omega)) ?_
  rintro _ g2 ⟨l2, ys2, b2, rfl, o2, bl2⟩
  try simp only [hn_push, hn_up] at bl2
  have nn2 := l2.n
  try simp only [hn_push, hn_up] at nn2
  have LL2 : h.le g2 := H2.le.trans (by repeat (first | exact H2.le.refl _ | apply le_push | refine le_up ?_ (by assumption))) l2
  have ln2 := LL2.n
  obtain ⟨b2_6, s2_6, b2_7, s2_7, rfl, rfl, o2_6, o2_7⟩ := invAsk o2
  clear o2
  have bl2_6 := bl2.split.1
  have ce2_6 := OT.cell o2_6
  have bl2_7 := bl2.split.2.1
  have ce2_7 := OT.cell o2_7
  repeat (first | rw [kz_o] | rw [kz_r0] | simp -dsimp -implicitDefEqProofs only [go_sem, Nat.reduceBEq, Nat.reduceAdd, Nat.reduceLeDiff, Nat.reduceMul, Int.reduceLE, Int.reduceLT, Int.reduceBEq, ce2_6, ce2_7, hoo])
  refine wz_intro (implReadAsk_ok  (by omega)) ?_
  rintro _ g3 ⟨l3, ys3, b3, rfl, o3, bl3⟩
  try simp only [hn_push, hn_up] at bl3
  have nn3 := l3.n
  try simp only [hn_push, hn_up] at nn3
  have LL3 : g2.le g3 := H2.le.trans (by repeat (first | exact H2.le.refl _ | apply le_push | refine le_up ?_ (by assumption))) l3
  have ln3 := LL3.n
  replace o2_6 := o2_6.keep LL3 (bl2_6.wide (Nat.le_refl _) (by omega))
  replace o2_7 := o2_7.keep LL3 (bl2_7.wide (Nat.le_refl _) (by omega))
  have row0 : hg g3 (hn g2 .mk) .mk = some ⟨8, [.raw (.int .i64 (readAsk s).1.op), .raw (.string (readAsk s).1.text), .raw (.int .i64 (readAsk s).1.pos), .raw (.int .i64 (readAsk s).1.config.top), .raw (.int .i64 (readAsk s).1.config.seed), .raw (.int .i64 (readAsk s).1.config.new), s2_6, s2_7]⟩ := (l3.2 (hn g2 .mk) (by simp only [hn_push, hn_up]; omega)).trans (by simp -dsimp -implicitDefEqProofs only [go_sem, Nat.reduceBEq, Nat.reduceAdd, Nat.reduceLeDiff, Nat.reduceMul, Int.reduceLE, Int.reduceLT, Int.reduceBEq, ce2_6, ce2_7, hoo])
  obtain ⟨b3_6, s3_6, b3_7, s3_7, rfl, rfl, o3_6, o3_7⟩ := invAsk o3
  clear o3
  have bl3_6 := bl3.split.1
  have ce3_6 := OT.cell o3_6
  have bl3_7 := bl3.split.2.1
  have ce3_7 := OT.cell o3_7
  have ne4 : ((hn g2 .mk) == (hn g3 .mk)) = false := by simp; omega
  have nf4 : ((hn g3 .mk) == (hn g2 .mk)) = false := by simp; omega
  repeat (first | rw [kz_o] | rw [kz_r0] | simp -dsimp -implicitDefEqProofs only [go_sem, Nat.reduceBEq, Nat.reduceAdd, Nat.reduceLeDiff, Nat.reduceMul, Int.reduceLE, Int.reduceLT, Int.reduceBEq, ce2_6, ce2_7, ce3_6, ce3_7, row0, ne4, nf4, hoo])
  refine pw_intro (eqAsk_tree (outAsk (c := (readAsk s).1) (o3_6.keep (by repeat (first | exact H2.le.refl _ | apply le_push | refine le_up ?_ (by assumption))) (bl3_6.wide (Nat.le_refl _) (by omega))) (o3_7.keep (by repeat (first | exact H2.le.refl _ | apply le_push | refine le_up ?_ (by assumption))) (bl3_7.wide (Nat.le_refl _) (by omega)))) (outAsk (c := (readAsk s).1) (o2_6.keep (by repeat (first | exact H2.le.refl _ | apply le_push | refine le_up ?_ (by assumption))) (bl2_6.wide (Nat.le_refl _) (by omega))) (o2_7.keep (by repeat (first | exact H2.le.refl _ | apply le_push | refine le_up ?_ (by assumption))) (bl2_7.wide (Nat.le_refl _) (by omega)))) hft) ?_
  rintro _ n5 hn5 rfl
  have hm5 := hn5
  try simp only [hn_push, hn_up] at hm5
  repeat (first | rw [kz_o] | rw [kz_r0] | simp -dsimp -implicitDefEqProofs only [go_sem, Nat.reduceBEq, Nat.reduceAdd, Nat.reduceLeDiff, Nat.reduceMul, Int.reduceLE, Int.reduceLT, Int.reduceBEq, ne4, nf4, ce2_6, ce2_7, ce3_6, ce3_7, row0, hoo])
  refine wz_intro (markAsk_ok (c := (readAsk s).1) (o3_6.keep (by repeat (first | exact H2.le.refl _ | apply le_push | refine le_up ?_ (by assumption))) (bl3_6.wide (Nat.le_refl _) (by omega))) (o3_7.keep (by repeat (first | exact H2.le.refl _ | apply le_push | refine le_up ?_ (by assumption))) (bl3_7.wide (Nat.le_refl _) (by omega))) (bl3.wide (Nat.le_refl _) (by first | omega | (simp only [hn_push, hn_up]; omega))) ⟨by omega, by omega⟩) ?_
  rintro _ g6 ⟨k6, z6_6, z6_7, rfl, lo6, hi6, ⟨o3_6', o3_7'⟩, hd6, nn6, fr6⟩
  try simp only [hn_push, hn_up] at nn6
  replace o2_6 := OT.frame (g' := g6) (o2_6.keep (by repeat (first | exact H2.le.refl _ | apply le_push | refine le_up ?_ (by assumption))) (bl2_6.wide (Nat.le_refl _) (by omega))) fun b hb => fr6 b (by have := (bl2_6.2 b hb).2; first | omega | (simp only [hn_push, hn_up]; omega)) (fun hx => by have := bl2.2 b (by simp [hb]); have := bl3.2 b hx; omega)
  replace o2_7 := OT.frame (g' := g6) (o2_7.keep (by repeat (first | exact H2.le.refl _ | apply le_push | refine le_up ?_ (by assumption))) (bl2_7.wide (Nat.le_refl _) (by omega))) fun b hb => fr6 b (by have := (bl2_7.2 b hb).2; first | omega | (simp only [hn_push, hn_up]; omega)) (fun hx => by have := bl2.2 b (by simp [hb]); have := bl3.2 b hx; omega)
  replace o3_6 := o3_6'
  replace o3_7 := o3_7'
  replace row0 := (show hg g6 (hn g2 .mk) .mk = hg g3 (hn g2 .mk) .mk from (show hg g6 (hn g2 .mk) .mk = hg _ (hn g2 .mk) .mk from fr6 (hn g2 .mk) (by first | omega | (simp only [hn_push, hn_up]; omega)) (fun hx => by have := bl3.2 _ hx; omega)).trans (by first | rfl | simp -dsimp -implicitDefEqProofs only [go_sem, Nat.reduceBEq, Nat.reduceAdd, Nat.reduceLeDiff, Nat.reduceMul, Int.reduceLE, Int.reduceLT, Int.reduceBEq, ne4, nf4, hoo])).trans row0
  have row1 : hg g6 (hn g3 .mk) .mk = some ⟨8, [.raw (.int .i64 (readAsk s).1.op), .raw (.string (readAsk s).1.text), .raw (.int .i64 (readAsk s).1.pos), .raw (.int .i64 (readAsk s).1.config.top), .raw (.int .i64 (readAsk s).1.config.seed), .raw (.int .i64 (readAsk s).1.config.new), s3_6, s3_7]⟩ := (show hg g6 (hn g3 .mk) .mk = hg _ (hn g3 .mk) .mk from fr6 (hn g3 .mk) (by first | omega | (simp only [hn_push, hn_up]; omega)) (fun hx => by have := bl3.2 _ hx; omega)).trans (by simp -dsimp -implicitDefEqProofs only [go_sem, Nat.reduceBEq, Nat.reduceAdd, Nat.reduceLeDiff, Nat.reduceMul, Int.reduceLE, Int.reduceLT, Int.reduceBEq, ne4, nf4, hoo])
  have kp6 : 0 ≤ k6 := by omega
  have kq6 : ¬ k6 < 0 := by omega
  repeat (first | rw [kz_o] | rw [kz_r0] | simp -dsimp -implicitDefEqProofs only [go_sem, Nat.reduceBEq, Nat.reduceAdd, Nat.reduceLeDiff, Nat.reduceMul, Int.reduceLE, Int.reduceLT, Int.reduceBEq, ne4, nf4, kq6, ce2_6, ce2_7, ce3_6, ce3_7, row0, row1, hoo])
  refine pw_intro (heldAsk_tree (outAsk (c := (⟨(readAsk s).1.op, (readAsk s).1.text, (readAsk s).1.pos, ⟨(readAsk s).1.config.top, (readAsk s).1.config.seed, (readAsk s).1.config.new, z6_6⟩, z6_7⟩ : LAsk)) (o3_6.keep (by repeat (first | exact H2.le.refl _ | apply le_push | refine le_up ?_ (by assumption))) (bl3_6.wide (Nat.le_refl _) (by omega))) (o3_7.keep (by repeat (first | exact H2.le.refl _ | apply le_push | refine le_up ?_ (by assumption))) (bl3_7.wide (Nat.le_refl _) (by omega)))) hd6) ?_
  rintro _ n7 hn7 rfl
  have hm7 := hn7
  try simp only [hn_push, hn_up] at hm7
  repeat (first | rw [kz_o] | rw [kz_r0] | simp -dsimp -implicitDefEqProofs only [go_sem, Nat.reduceBEq, Nat.reduceAdd, Nat.reduceLeDiff, Nat.reduceMul, Int.reduceLE, Int.reduceLT, Int.reduceBEq, ne4, nf4, kq6, ce2_6, ce2_7, ce3_6, ce3_7, row0, row1, hoo])
  refine wz_intro (implReadAsk_ok  (by omega)) ?_
  rintro _ g8 ⟨l8, ys8, b8, rfl, o8, bl8⟩
  try simp only [hn_push, hn_up] at bl8
  have nn8 := l8.n
  try simp only [hn_push, hn_up] at nn8
  have LL8 : g6.le g8 := H2.le.trans (by repeat (first | exact H2.le.refl _ | apply le_push | refine le_up ?_ (by assumption))) l8
  have ln8 := LL8.n
  replace o2_6 := o2_6.keep LL8 (bl2_6.wide (Nat.le_refl _) (by omega))
  replace o2_7 := o2_7.keep LL8 (bl2_7.wide (Nat.le_refl _) (by omega))
  replace o3_6 := o3_6.keep LL8 (bl3_6.wide (Nat.le_refl _) (by omega))
  replace o3_7 := o3_7.keep LL8 (bl3_7.wide (Nat.le_refl _) (by omega))
  replace row0 := (LL8.2 (hn g2 .mk) (by omega)).trans row0
  replace row1 := (LL8.2 (hn g3 .mk) (by omega)).trans row1
  obtain ⟨b8_6, s8_6, b8_7, s8_7, rfl, rfl, o8_6, o8_7⟩ := invAsk o8
  clear o8
  have bl8_6 := bl8.split.1
  have ce8_6 := OT.cell o8_6
  have bl8_7 := bl8.split.2.1
  have ce8_7 := OT.cell o8_7
  have ne9 : ((hn g2 .mk) == (hn g8 .mk)) = false := by simp; omega
  have nf9 : ((hn g8 .mk) == (hn g2 .mk)) = false := by simp; omega
  have ne10 : ((hn g3 .mk) == (hn g8 .mk)) = false := by simp; omega
  have nf10 : ((hn g8 .mk) == (hn g3 .mk)) = false := by simp; omega
  repeat (first | rw [kz_o] | rw [kz_r0] | simp -dsimp -implicitDefEqProofs only [go_sem, Nat.reduceBEq, Nat.reduceAdd, Nat.reduceLeDiff, Nat.reduceMul, Int.reduceLE, Int.reduceLT, Int.reduceBEq, ne4, nf4, kq6, ce2_6, ce2_7, ce3_6, ce3_7, ce8_6, ce8_7, row0, row1, ne9, nf9, ne10, nf10, hoo])
  refine pw_intro (eqAsk_tree (outAsk (c := (readAsk s).1) (o8_6.keep (by repeat (first | exact H2.le.refl _ | apply le_push | refine le_up ?_ (by assumption))) (bl8_6.wide (Nat.le_refl _) (by omega))) (o8_7.keep (by repeat (first | exact H2.le.refl _ | apply le_push | refine le_up ?_ (by assumption))) (bl8_7.wide (Nat.le_refl _) (by omega)))) (outAsk (c := (readAsk s).1) (o2_6.keep (by repeat (first | exact H2.le.refl _ | apply le_push | refine le_up ?_ (by assumption))) (bl2_6.wide (Nat.le_refl _) (by omega))) (o2_7.keep (by repeat (first | exact H2.le.refl _ | apply le_push | refine le_up ?_ (by assumption))) (bl2_7.wide (Nat.le_refl _) (by omega)))) hft) ?_
  rintro _ n11 hn11 rfl
  have hm11 := hn11
  try simp only [hn_push, hn_up] at hm11
  repeat (first | rw [kz_o] | rw [kz_r0] | simp -dsimp -implicitDefEqProofs only [go_sem, Nat.reduceBEq, Nat.reduceAdd, Nat.reduceLeDiff, Nat.reduceMul, Int.reduceLE, Int.reduceLT, Int.reduceBEq, ne4, nf4, kq6, ne9, nf9, ne10, nf10, ce2_6, ce2_7, ce3_6, ce3_7, ce8_6, ce8_7, row0, row1, hoo])
  refine pw_intro (heldAsk_tree (outAsk (c := (⟨(readAsk s).1.op, (readAsk s).1.text, (readAsk s).1.pos, ⟨(readAsk s).1.config.top, (readAsk s).1.config.seed, (readAsk s).1.config.new, z6_6⟩, z6_7⟩ : LAsk)) (o3_6.keep (by repeat (first | exact H2.le.refl _ | apply le_push | refine le_up ?_ (by assumption))) (bl3_6.wide (Nat.le_refl _) (by omega))) (o3_7.keep (by repeat (first | exact H2.le.refl _ | apply le_push | refine le_up ?_ (by assumption))) (bl3_7.wide (Nat.le_refl _) (by omega)))) hd6) ?_
  rintro _ n12 hn12 rfl
  have hm12 := hn12
  try simp only [hn_push, hn_up] at hm12
  repeat (first | rw [kz_o] | rw [kz_r0] | simp -dsimp -implicitDefEqProofs only [go_sem, Nat.reduceBEq, Nat.reduceAdd, Nat.reduceLeDiff, Nat.reduceMul, Int.reduceLE, Int.reduceLT, Int.reduceBEq, ne4, nf4, kq6, ne9, nf9, ne10, nf10, ce2_6, ce2_7, ce3_6, ce3_7, ce8_6, ce8_7, row0, row1, hoo])
  rfl
end Go.Bi
