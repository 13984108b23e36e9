/- What FnChooses draws: a right config, a state, and numbers to choose from. -/
import Derived.Test.YtdakdjpndomdpaaDs
set_option linter.unusedSimpArgs false
set_option linter.unusedVariables false
set_option maxRecDepth 20000
namespace Go.Bi
open Go.Proofs
open Go.Ai (wrap_i64 wrap_u64 wrap_u8)
variable {W0 : World} {P : Program}
set_option maxHeartbeats 1000000
theorem append_i1 {D : Nat → Option (List Nat)} {g : H2} {K : KT} {t u U y N : Nat} {xs : List Int} {x : X} {f : Adr} {s : Int} (he : Go.Ai.elt? P t = some (U, 1, y)) (hz : Go.Ai.zr? P U = some [.int .i64 0]) (hu : Go.Ai.cls? P u = some .sl)
    (hx : OwnI N g x xs) (hN0 : N ≤ hn g .mk) (hn0 : (xs.length + 1) * (y + 1) ≤ Go.Ai.most)
    (hk : ∀ v' g', OwnI N g' v' (xs ++ [s]) → hn g .mk ≤ hn g' .mk → (∀ g0 : H2, hn g0 .mk ≤ N → g0.le g → g0.le g') → (∀ c, c < hn g .mk → blockOf x ≠ some c → hg g' c .mk = hg g c .mk) → kz K v' g' .mk) :
    az (biz P g .append [t, u] [x, .sl f 1 [[.v (.int .i64 s)]]] .mk) K .mk := by
  refine append_own (z := 0) (m := 1) (news := [cI s]) (N := N) he hz rfl hu hx hN0 rfl rfl rfl hn0 ?_
  intro v' g' o
  refine hk v' g' ?_
  unfold OwnI
  rw [List.map_append, List.length_append]
  exact o
theorem own_apartF {N z n : Nat} {g : H2} {v : X} {cs : List X} (o : Own N g v z n cs) : ∀ c, blockOf v = some c → N ≤ c ∧ c < hn g .mk := fun c e => by
  obtain ⟨_, h⟩ := o
  rcases h with ⟨rfl, _⟩ | ⟨b, rfl, h1, h2, _⟩
  · cases e
  · simp only [blockOf, Option.some.injEq] at e; omega
theorem draw_ok {f : Adr} {bs : List Int} {g : H2} (hl : bs.length ≤ 1048576) : WC2 Try.prog W0 45 [.sl f 1 (u8s bs)] g (fun x g' => ∃ (c : LConfig) (s : Int) (zs : List Int) (v w : X) (M : Nat), x = .tp [.st [.raw (.int .i64 c.top), .raw (.int .i64 c.seed), .raw (.int .i64 c.new), v], .raw (.int .u64 s), w] ∧ cfgOk c = true ∧ (0 ≤ s ∧ s < 18446744073709551616) ∧ (1 ≤ zs.length ∧ zs.length ≤ 12) ∧ (∀ z ∈ zs, -1500 ≤ z ∧ z ≤ 1500) ∧ g.le g' ∧ OwnS (hn g .mk) g' v c.stops ∧ OwnI (hn g .mk) g' w zs ∧ ∀ q, blockOf v = some q → blockOf w ≠ some q) := by
  refine start (P := Try.prog) [[0], [0, 2], [2, 5], [2, 5, 6], [2, 5, 6, 7], [2, 5, 6, 7, 8], [2, 5, 6, 7, 8, 9], [2, 5, 6, 7, 8, 9], [2, 5, 6, 7, 8, 9], [2, 6, 7, 8]] (by kernel_rfl) Try.func45 rfl (by decide) (by decide +kernel) (rs := [.cell 2 36, .tmp 3, .tmp 4]) rfl rfl (Nat.le_of_ble_eq_true rfl) ?_
  intro wf
  repeat (first | rw [kz_o] | rw [kz_r0] | simp -dsimp -implicitDefEqProofs only [go_sem, Nat.reduceBEq, Nat.reduceAdd, Nat.reduceLeDiff, Nat.reduceMul, Int.reduceLE, Int.reduceLT, Int.reduceBEq])
  refine wz_intro (new_ok hl) ?_
  rintro _ g1 ⟨b, rfl, co1, hb, l1⟩
  have L1 : g.le g1 := H2.le.trans (le_push (H2.le.refl _)) l1
  repeat (first | rw [kz_o] | rw [kz_r0] | simp -dsimp -implicitDefEqProofs only [go_sem, Nat.reduceBEq, Nat.reduceAdd, Nat.reduceLeDiff, Nat.reduceMul, Int.reduceLE, Int.reduceLT, Int.reduceBEq])
  refine wz_intro (config_ok co1) ?_
  rintro x g2 ⟨⟨c, hcfg, htop, v, rfl, ov⟩, co2, on2⟩
  have oc := own_cell ov
  have hvq := own_apartF ov
  have hg1 := l1.1
  rw [hn_push] at hg1
  have r1 : hg g1 (hn g .mk) .mk = some ⟨4, [.raw (.int .i64 0), .raw (.int .i64 0), .raw (.int .i64 0), .raw (.slice none 0 0)]⟩ := (l1.2 (hn g .mk) (by rw [hn_push]; omega)).trans (by simp -dsimp -implicitDefEqProofs only [go_sem, Nat.reduceBEq, Nat.reduceAdd, Nat.reduceLeDiff, Nat.reduceMul, Int.reduceLE, Int.reduceLT, Int.reduceBEq, hoo])
  have hb1 : hn g .mk < b := by rw [hn_push] at hb; omega
  have r2 := (on2.2 (hn g .mk) (by omega) (by omega)).trans r1
  have L2 : g.le g2 := ⟨by have := on2.1; have := L1.1; omega, fun q hq => (on2.2 q (by have := L1.1; omega) (by omega)).trans (L1.2 q hq)⟩
  have n2 := on2.1
  repeat (first | rw [kz_o] | rw [kz_r0] | simp -dsimp -implicitDefEqProofs only [go_sem, Nat.reduceBEq, Nat.reduceAdd, Nat.reduceLeDiff, Nat.reduceMul, Int.reduceLE, Int.reduceLT, Int.reduceBEq, oc, hoo])
  refine wz_intro (state_ok (co2.le (le_push (H2.le.refl _)))) ?_
  rintro _ g3 ⟨⟨st, rfl, st1, st2⟩, co3, on3⟩
  have n3 := on3.1
  rw [hn_push] at n3
  have hne : (hn g .mk == hn g2 .mk) = false := by simp; omega
  have r3 : hg g3 (hn g .mk) .mk = _ := (on3.2 (hn g .mk) (by rw [hn_push]; omega) (by omega)).trans (by simp -dsimp -implicitDefEqProofs only [go_sem, Nat.reduceBEq, Nat.reduceAdd, Nat.reduceLeDiff, Nat.reduceMul, Int.reduceLE, Int.reduceLT, Int.reduceBEq, hne, r2] <;> rfl)
  have q3 : hg g3 (hn g2 .mk) .mk = some ⟨4, [.raw (.int .i64 c.top), .raw (.int .i64 c.seed), .raw (.int .i64 c.new), v]⟩ := (on3.2 (hn g2 .mk) (by rw [hn_push]; omega) (by have := co2.1; omega)).trans (by simp -dsimp -implicitDefEqProofs only [go_sem, Nat.reduceBEq, Nat.reduceAdd, Nat.reduceLeDiff, Nat.reduceMul, Int.reduceLE, Int.reduceLT, Int.reduceBEq, hoo])
  have ov3 : OwnS (hn g1 .mk) g3 v c.stops := own_only (Own.keep ov (le_push (H2.le.refl _))) on3 (by have := co1.1; omega)
  have L3 : g.le g3 := ⟨by have := L2.1; omega, fun q hq => (on3.2 q (by rw [hn_push]; have := L2.1; omega) (by omega)).trans ((le_push L2).2 q hq)⟩
  repeat (first | rw [kz_o] | rw [kz_r0] | simp -dsimp -implicitDefEqProofs only [go_sem, Nat.reduceBEq, Nat.reduceAdd, Nat.reduceLeDiff, Nat.reduceMul, Int.reduceLE, Int.reduceLT, Int.reduceBEq])
  refine lz_keep [2, 5, 6, 7] (fun m e h' => ∃ (i : Nat) (zs : List Int) (w : X), look e 9 .mk = .raw (.int .i64 (i : Nat)) ∧ look e 8 .mk = w ∧ OwnI (hn g3 .mk) h' w zs ∧ zs.length = i ∧ (∀ z ∈ zs, -1500 ≤ z ∧ z ≤ 1500) ∧ m + i = 12 ∧ Cur h' b f bs ∧ hg h' (hn g2 .mk) .mk = some ⟨4, [.raw (.int .i64 c.top), .raw (.int .i64 c.seed), .raw (.int .i64 c.new), v]⟩ ∧ hg h' (hn g .mk) .mk = some ⟨4, [.raw (.int .i64 0), .raw (.int .i64 0), .raw (.int .i64 0), .raw (.slice none 0 0)]⟩ ∧ OwnS (hn g1 .mk) h' v c.stops ∧ g.le h' ∧ hn g3 .mk ≤ hn h' .mk) 12 ?_ ?_
  · exact ⟨0, [], _, by simp -dsimp -implicitDefEqProofs only [go_sem, Nat.reduceBEq, Nat.reduceAdd, Nat.reduceLeDiff, Nat.reduceMul, Int.reduceLE, Int.reduceLT, Int.reduceBEq], by simp -dsimp -implicitDefEqProofs only [go_sem, Nat.reduceBEq, Nat.reduceAdd, Nat.reduceLeDiff, Nat.reduceMul, Int.reduceLE, Int.reduceLT, Int.reduceBEq] <;> rfl, Own.new (Nat.le_refl _) rfl, rfl, by simp, by omega, co3.le (le_push (H2.le.refl _)), (by simp -dsimp -implicitDefEqProofs only [go_sem, Nat.reduceBEq, Nat.reduceAdd, Nat.reduceLeDiff, Nat.reduceMul, Int.reduceLE, Int.reduceLT, Int.reduceBEq, show (hn g2 .mk == hn g3 .mk) = false by simp; omega, q3]), (by simp -dsimp -implicitDefEqProofs only [go_sem, Nat.reduceBEq, Nat.reduceAdd, Nat.reduceLeDiff, Nat.reduceMul, Int.reduceLE, Int.reduceLT, Int.reduceBEq, show (hn g .mk == hn g3 .mk) = false by simp; omega, r3]), Own.keep ov3 (le_push (H2.le.refl _)), le_push L3, by simp -dsimp -implicitDefEqProofs only [go_sem, Nat.reduceBEq, Nat.reduceAdd, Nat.reduceLeDiff, Nat.reduceMul, Int.reduceLE, Int.reduceLT, Int.reduceBEq] <;> omega⟩
  · rintro m e h' hks ⟨i, zs, w, e9, e8, ow, hz, hzs, hm, co4, q4, r4, ov4, L4, n4⟩
    simp -dsimp -implicitDefEqProofs only [go_sem, Nat.reduceBEq, Nat.reduceAdd, Nat.reduceLeDiff, Nat.reduceMul, Int.reduceLE, Int.reduceLT, Int.reduceBEq] at hks
    repeat (first | rw [kz_o] | rw [kz_r0] | simp -dsimp -implicitDefEqProofs only [go_sem, Nat.reduceBEq, Nat.reduceAdd, Nat.reduceLeDiff, Nat.reduceMul, Int.reduceLE, Int.reduceLT, Int.reduceBEq, hks, e9, e8])
    refine wz_intro (below_ok co4 (by omega)) ?_
    rintro _ g5 ⟨⟨x, rfl, x1, x2, x3⟩, co5, on5⟩
    have n5 := on5.1
    have w1 : IntKind.i64.wrap (1 + x) = 1 + x := by have := x2 (by omega); rw [wrap_i64] <;> omega
    have q5 := (on5.2 (hn g2 .mk) (by omega) (by have := co2.1; omega)).trans q4
    have r5 := (on5.2 (hn g .mk) (by omega) (by omega)).trans r4
    have ow5 : OwnI (hn g3 .mk) g5 w zs := own_only ow on5 (by have := co2.1; omega)
    have ov5 : OwnS (hn g1 .mk) g5 v c.stops := own_only ov4 on5 (by have := co1.1; omega)
    have L5 : g.le g5 := ⟨by have := L4.1; omega, fun q hq => (on5.2 q (by have := L4.1; omega) (by omega)).trans (L4.2 q hq)⟩
    repeat (first | rw [kz_o] | rw [kz_r0] | simp -dsimp -implicitDefEqProofs only [go_sem, Nat.reduceBEq, Nat.reduceAdd, Nat.reduceLeDiff, Nat.reduceMul, Int.reduceLE, Int.reduceLT, Int.reduceBEq, hks, e9, e8, w1])
    refine gz_dec (fun h7 => ?_) (fun h7 => ?_)
    · repeat (first | rw [kz_o] | rw [kz_r0] | simp -dsimp -implicitDefEqProofs only [go_sem, Nat.reduceBEq, Nat.reduceAdd, Nat.reduceLeDiff, Nat.reduceMul, Int.reduceLE, Int.reduceLT, Int.reduceBEq, hks, e9, e8, w1])
      refine wz_intro (below_ok co5 (by omega)) ?_
      rintro _ g6 ⟨⟨y, rfl, y1, y2, y3⟩, co6, on6⟩
      have n6 := on6.1
      have hy := y2 (by omega)
      have w2 : IntKind.i64.wrap (y - 1500) = y - 1500 := by rw [wrap_i64] <;> omega
      have ow6 : OwnI (hn g3 .mk) g6 w zs := own_only ow5 on6 (by have := co2.1; omega)
      have ov6 : OwnS (hn g1 .mk) g6 v c.stops := own_only ov5 on6 (by have := co1.1; omega)
      repeat (first | rw [kz_o] | rw [kz_r0] | simp -dsimp -implicitDefEqProofs only [go_sem, Nat.reduceBEq, Nat.reduceAdd, Nat.reduceLeDiff, Nat.reduceMul, Int.reduceLE, Int.reduceLT, Int.reduceBEq, w2])
      refine append_i1 (P := Try.prog) (D := fun _ => none) (N := hn g3 .mk) Go.Ai.ty_el40 Go.Ai.ty_zr3 Go.Ai.ty_cl40 (Own.up ow6 (Nat.le_succ _)) (by rw [hn_up]; omega) (by rw [hz]; have : Go.Ai.most = 1099511627776 := rfl; omega) ?_
      intro w' g7 ow7 n7 le7 on7
      simp only [hn_up] at n7
      have k7 : ∀ c, c < hn g3 .mk → hg g7 c .mk = hg g6 c .mk := fun c hc => on7 c (by rw [hn_up]; omega) (own_apart ow6 hc)
      have q7 := (k7 (hn g2 .mk) (by omega)).trans ((on6.2 (hn g2 .mk) (by omega) (by have := co2.1; omega)).trans q5)
      have r7 := (k7 (hn g .mk) (by omega)).trans ((on6.2 (hn g .mk) (by omega) (by omega)).trans r5)
      have ov7 : OwnS (hn g1 .mk) g7 v c.stops := by
        obtain ⟨a1, a2⟩ := ov6
        refine ⟨a1, a2.imp_right ?_⟩
        rintro ⟨q, e1, e2, e3, e4⟩
        have := hvq q (by rw [e1]; rfl)
        exact ⟨q, e1, e2, by omega, (k7 q (by omega)).trans e4⟩
      have co7 : Cur g7 b f bs := ⟨by have := co2.1; omega, co6.2.1, by
        obtain ⟨p1, p2, p3, p4⟩ := co6.2.2
        exact ⟨p1, p2, (k7 b (by have := co2.1; omega)).trans p3, p4⟩⟩
      have L7 : g.le g7 := ⟨by have := L5.1; omega, fun q hq => (k7 q (by have := L5.1; omega)).trans ((on6.2 q (by have := L5.1; omega) (by omega)).trans (L5.2 q hq))⟩
      have w5 : IntKind.i64.wrap ((i : Int) + 1) = ((i + 1 : Nat) : Int) := by rw [wrap_i64] <;> omega
      have hx2 := x2 (by omega)
      repeat (first | rw [kz_o] | rw [kz_r0] | simp -dsimp -implicitDefEqProofs only [go_sem, Nat.reduceBEq, Nat.reduceAdd, Nat.reduceLeDiff, Nat.reduceMul, Int.reduceLE, Int.reduceLT, Int.reduceBEq, hks, e9, w5])
      refine nx_keep (m - 1) (by omega) (by simp -dsimp -implicitDefEqProofs only [go_sem, Nat.reduceBEq, Nat.reduceAdd, Nat.reduceLeDiff, Nat.reduceMul, Int.reduceLE, Int.reduceLT, Int.reduceBEq, hks]) ⟨i + 1, zs ++ [y - 1500], w', by simp -dsimp -implicitDefEqProofs only [go_sem, Nat.reduceBEq, Nat.reduceAdd, Nat.reduceLeDiff, Nat.reduceMul, Int.reduceLE, Int.reduceLT, Int.reduceBEq, w5], by simp -dsimp -implicitDefEqProofs only [go_sem, Nat.reduceBEq, Nat.reduceAdd, Nat.reduceLeDiff, Nat.reduceMul, Int.reduceLE, Int.reduceLT, Int.reduceBEq], ow7, by simp [hz], ?_, by omega, co7, q7, r7, ov7, L7, by omega⟩
      intro q hq
      rcases List.mem_append.1 hq with hq | hq
      · exact hzs q hq
      · simp at hq; subst hq; omega
    · have oc2 := own_cell ow5
      have hx2 := x2 (by omega)
      repeat (first | rw [kz_o] | rw [kz_r0] | simp -dsimp -implicitDefEqProofs only [go_sem, Nat.reduceBEq, Nat.reduceAdd, Nat.reduceLeDiff, Nat.reduceMul, Int.reduceLE, Int.reduceLT, Int.reduceBEq, hks, e9, e8, w1, q5, r5, oc, oc2, hoo])
      refine ⟨c, st, zs, v, w, 0, rfl, hcfg, ⟨st1, st2⟩, ⟨by omega, by omega⟩, hzs, le_set L5 (by omega), own_wide (own_only (b := hn g .mk) ov5 OnlyR.refl.set (by omega)) (by omega), own_wide (own_only (b := hn g .mk) ow5 OnlyR.refl.set (by omega)) (by omega), fun q e1 e2 => ?_⟩
      have := hvq q e1
      have := own_apartF ow5 q e2
      omega
end Go.Bi
