/- What FnAsks draws: any ask, and its bytes. -/
import Derived.Test.YtjofbadmkigkjaaJc
set_option linter.unusedSimpArgs false
set_option linter.unusedVariables false
set_option maxRecDepth 20000
namespace Go.Bi
open Go.Proofs
open Go.Ai (wrap_i64 wrap_u64 wrap_u8)
variable {W0 : World} {P : Program}
set_option maxHeartbeats 2000000
theorem OwnI.only {N b : Nat} {g g' : H2} {v : X} {zs : List Int} (o : OwnI N g v zs) (l : OnlyR g g' b) (hb : b < N) : OwnI N g' v zs := own_only o l hb
theorem anyAsk_ok {b : Nat} {f : Adr} {bs : List Int} {g : H2} (co : Cur g b f bs) : WC2 Try.prog W0 30 [.raw (.pointer (some ⟨b, 0, none⟩))] g (fun x g' => (∃ a, AskA (hn g .mk) g' x a) ∧ Cur g' b f bs ∧ OnlyR g g' b) := by
  refine start (P := Try.prog) [[0], [0, 2], [0, 2, 3], [0, 2, 3, 9], [0, 2, 3], [0, 2, 3, 9], [0, 2, 3], [0, 2, 3, 9], [0, 2, 3], [0, 2, 3, 9], [0, 2, 3], [0, 2, 3, 9], [0, 2, 3], [2, 3]] (by kernel_rfl) Try.func30 rfl (by decide) (by decide +kernel) (rs := [.cell 2 29]) rfl rfl (Nat.le_of_ble_eq_true rfl) ?_
  intro wf
  repeat (first | rw [kz_o] | rw [kz_r0] | simp -dsimp -implicitDefEqProofs only [go_sem, Nat.reduceBEq, Nat.reduceAdd, Nat.reduceLeDiff, Nat.reduceMul, Int.reduceLE, Int.reduceLT, Int.reduceBEq])
  refine make_intro Go.Ai.ty_el74 Go.Ai.ty_zr169 (by simp) (by simp [Go.Ai.most]) ?_
  repeat (first | rw [kz_o] | rw [kz_r0] | simp -dsimp -implicitDefEqProofs only [go_sem, Nat.reduceBEq, Nat.reduceAdd, Nat.reduceLeDiff, Nat.reduceMul, Int.reduceLE, Int.reduceLT, Int.reduceBEq])
  have hb := co.1
  refine wz_intro (ask_ok (e := hn g .mk + 1) (x0 := .int .i64 0) (x1 := .int .i64 0) (x2 := .int .i64 0) (x3 := .slice none 0 0) (x4 := .slice none 0 0) (x5 := .slice none 0 0) (x6 := .slice none 0 0) (x7 := .int .i64 0) (x8 := .slice none 0 0) (x9 := .slice none 0 0) (x10 := .int .i64 0) (x11 := .int .i64 0) (x12 := .slice none 0 0) (x13 := .slice none 0 0) (x14 := .slice none 0 0) (x15 := .slice none 0 0) (co.le (by repeat (first | exact H2.le.refl _ | apply le_push | refine le_up ?_ (Nat.le_succ _))))) ?_
  rintro _ g1 ⟨⟨a, ⟨⟨z1, z2, z3, z4⟩, v, w, rfl, ov, ow⟩⟩, co1, on1⟩
  have N1 := on1.1
  simp only [hn_push, hn_up] at N1 ov ow
  have hb1 := co1.1
  have bR : b ≠ hn g .mk := by omega
  have bA : b ≠ hn g1 .mk := by omega
  have oc := ov.cell
  have oc2 := own_cell ow
  have rowR1 := (on1.2 (hn g .mk) (by simp only [hn_push, hn_up]; omega) (by omega)).trans (by simp -dsimp -implicitDefEqProofs only [go_sem, Nat.reduceBEq, Nat.reduceAdd, Nat.reduceLeDiff, Nat.reduceMul, Int.reduceLE, Int.reduceLT, Int.reduceBEq, show (hn g .mk == hn g .mk + 1) = false by simp, hoo] <;> rfl)
  have hne : (hn g .mk == hn g1 .mk) = false := by simp; omega
  have o1 : OnlyR g g1 b := OnlyR.trans (OnlyR.refl.push.push) on1
  repeat (first | rw [kz_o] | rw [kz_r0] | simp -dsimp -implicitDefEqProofs only [go_sem, Nat.reduceBEq, Nat.reduceAdd, Nat.reduceLeDiff, Nat.reduceMul, Int.reduceLE, Int.reduceLT, Int.reduceBEq, oc, oc2, hoo, hne])
  refine wz_intro (below_ok (co1.le (le_push (H2.le.refl _))) (by omega)) ?_
  rintro _ g2 ⟨⟨r, rfl, r1, r2, r3⟩, co2, on2⟩
  have N2 := on2.1
  simp only [hn_push, hn_up] at N2
  have rowA2 := (on2.2 (hn g1 .mk) (by simp only [hn_push, hn_up]; omega) (by omega)).trans (by simp -dsimp -implicitDefEqProofs only [go_sem, Nat.reduceBEq, Nat.reduceAdd, Nat.reduceLeDiff, Nat.reduceMul, Int.reduceLE, Int.reduceLT, Int.reduceBEq, hoo] <;> rfl)
  have rowR2 := (on2.2 (hn g .mk) (by simp only [hn_push, hn_up]; omega) (by omega)).trans (by simp -dsimp -implicitDefEqProofs only [go_sem, Nat.reduceBEq, Nat.reduceAdd, Nat.reduceLeDiff, Nat.reduceMul, Int.reduceLE, Int.reduceLT, Int.reduceBEq, hoo, hne, rowR1] <;> rfl)
  have o2 : OnlyR g g2 b := o1.trans (OnlyR.trans OnlyR.refl.push on2)
  have ov2 : RowS (hn g .mk + 1 + 1) g2 v a.config.stops := (ov.keep (le_push (H2.le.refl _))).only on2 (by omega)
  have ow2 : OwnI (hn g .mk + 1 + 1) g2 w a.picks := (ow.keep (le_push (H2.le.refl _))).only on2 (by omega)
  repeat (first | rw [kz_o] | rw [kz_r0] | simp -dsimp -implicitDefEqProofs only [go_sem, Nat.reduceBEq, Nat.reduceAdd, Nat.reduceLeDiff, Nat.reduceMul, Int.reduceLE, Int.reduceLT, Int.reduceBEq, hoo, hne])
  refine gz_dec (fun h1 => ?_) (fun h1 => ?_)
  · repeat (first | rw [kz_o] | rw [kz_r0] | simp -dsimp -implicitDefEqProofs only [go_sem, Nat.reduceBEq, Nat.reduceAdd, Nat.reduceLeDiff, Nat.reduceMul, Int.reduceLE, Int.reduceLT, Int.reduceBEq, h1, hoo, hne])
    refine wz_intro (pickInt_ok (zs := [0, 7, 1, 5]) (co2.le (by repeat (first | exact H2.le.refl _ | apply le_push | refine le_up ?_ (Nat.le_succ _)))) (by simp) (by simp)) ?_
    rintro _ g3 ⟨⟨q, rfl, hq⟩, co3, on3⟩
    have N3 := on3.1
    try simp only [hn_up] at N3
    have rowA3 : hg g3 (hn g1 .mk) .mk = _ := (on3.2 (hn g1 .mk) (by first | omega | (simp only [hn_up]; omega)) (by omega)).trans rowA2
    have rowR3 : hg g3 (hn g .mk) .mk = _ := (on3.2 (hn g .mk) (by first | omega | (simp only [hn_up]; omega)) (by omega)).trans rowR2
    have o3 : OnlyR g g3 b := o2.trans (OnlyR.trans (g' := g2.up (hn g2 .mk + 1)) (OnlyR.refl.up (Nat.le_succ _)) on3)
    have ov3 : RowS (hn g .mk + 1 + 1) g3 v a.config.stops := RowS.only (RowS.keep ov2 (le_up (H2.le.refl _) (Nat.le_succ _))) on3 (by omega)
    have ow3 : OwnI (hn g .mk + 1 + 1) g3 w a.picks := OwnI.only (OwnI.keep ow2 (le_up (H2.le.refl _) (Nat.le_succ _))) on3 (by omega)
    repeat (first | rw [kz_o] | rw [kz_r0] | simp -dsimp -implicitDefEqProofs only [go_sem, Nat.reduceBEq, Nat.reduceAdd, Nat.reduceLeDiff, Nat.reduceMul, Int.reduceLE, Int.reduceLT, Int.reduceBEq, rowA3, rowR3, hne, oc, oc2, hoo])
    have na : blockOf v ≠ some (hn g1 .mk) := ov3.ne rowA3 (by decide)
    have nr : blockOf v ≠ some (hn g .mk) := ov3.ne rowR3 (by decide)
    have ma : blockOf w ≠ some (hn g1 .mk) := own_ne1 ow3 rowA3 (by decide)
    have mr : blockOf w ≠ some (hn g .mk) := own_ne1 ow3 rowR3 (by decide)
    exact ⟨⟨⟨q, a.text, a.pos, a.config, a.picks⟩, ⟨z1, z2, z3, z4⟩, v, w, rfl, RowS.wide ((ov3.set na).set nr) (by omega), own_wide (own_setq (own_setq ow3 ma) mr) (by omega)⟩, (co3.set_ne bA).set_ne bR, (o3.set_new (by omega)).set_new (by omega)⟩
  repeat (first | rw [kz_o] | rw [kz_r0] | simp -dsimp -implicitDefEqProofs only [go_sem, Nat.reduceBEq, Nat.reduceAdd, Nat.reduceLeDiff, Nat.reduceMul, Int.reduceLE, Int.reduceLT, Int.reduceBEq, h1, hoo, hne])
  refine gz_dec (fun h2 => ?_) (fun h2 => ?_)
  · repeat (first | rw [kz_o] | rw [kz_r0] | simp -dsimp -implicitDefEqProofs only [go_sem, Nat.reduceBEq, Nat.reduceAdd, Nat.reduceLeDiff, Nat.reduceMul, Int.reduceLE, Int.reduceLT, Int.reduceBEq, h2, hoo, hne])
    refine wz_intro (pickInt_ok (zs := [-1, 255, 256]) (co2.le (by repeat (first | exact H2.le.refl _ | apply le_push | refine le_up ?_ (Nat.le_succ _)))) (by simp) (by simp)) ?_
    rintro _ g3 ⟨⟨q, rfl, hq⟩, co3, on3⟩
    have N3 := on3.1
    try simp only [hn_up] at N3
    have rowA3 : hg g3 (hn g1 .mk) .mk = _ := (on3.2 (hn g1 .mk) (by first | omega | (simp only [hn_up]; omega)) (by omega)).trans rowA2
    have rowR3 : hg g3 (hn g .mk) .mk = _ := (on3.2 (hn g .mk) (by first | omega | (simp only [hn_up]; omega)) (by omega)).trans rowR2
    have o3 : OnlyR g g3 b := o2.trans (OnlyR.trans (g' := g2.up (hn g2 .mk + 1)) (OnlyR.refl.up (Nat.le_succ _)) on3)
    have ov3 : RowS (hn g .mk + 1 + 1) g3 v a.config.stops := RowS.only (RowS.keep ov2 (le_up (H2.le.refl _) (Nat.le_succ _))) on3 (by omega)
    have ow3 : OwnI (hn g .mk + 1 + 1) g3 w a.picks := OwnI.only (OwnI.keep ow2 (le_up (H2.le.refl _) (Nat.le_succ _))) on3 (by omega)
    repeat (first | rw [kz_o] | rw [kz_r0] | simp -dsimp -implicitDefEqProofs only [go_sem, Nat.reduceBEq, Nat.reduceAdd, Nat.reduceLeDiff, Nat.reduceMul, Int.reduceLE, Int.reduceLT, Int.reduceBEq, rowA3, rowR3, hne, oc, oc2, hoo])
    have na : blockOf v ≠ some (hn g1 .mk) := ov3.ne rowA3 (by decide)
    have nr : blockOf v ≠ some (hn g .mk) := ov3.ne rowR3 (by decide)
    have ma : blockOf w ≠ some (hn g1 .mk) := own_ne1 ow3 rowA3 (by decide)
    have mr : blockOf w ≠ some (hn g .mk) := own_ne1 ow3 rowR3 (by decide)
    exact ⟨⟨⟨a.op, a.text, q, a.config, a.picks⟩, ⟨z1, z2, z3, z4⟩, v, w, rfl, RowS.wide ((ov3.set na).set nr) (by omega), own_wide (own_setq (own_setq ow3 ma) mr) (by omega)⟩, (co3.set_ne bA).set_ne bR, (o3.set_new (by omega)).set_new (by omega)⟩
  repeat (first | rw [kz_o] | rw [kz_r0] | simp -dsimp -implicitDefEqProofs only [go_sem, Nat.reduceBEq, Nat.reduceAdd, Nat.reduceLeDiff, Nat.reduceMul, Int.reduceLE, Int.reduceLT, Int.reduceBEq, h2, hoo, hne])
  refine gz_dec (fun h3 => ?_) (fun h3 => ?_)
  · repeat (first | rw [kz_o] | rw [kz_r0] | simp -dsimp -implicitDefEqProofs only [go_sem, Nat.reduceBEq, Nat.reduceAdd, Nat.reduceLeDiff, Nat.reduceMul, Int.reduceLE, Int.reduceLT, Int.reduceBEq, h3, hoo, hne])
    refine wz_intro (any_ok co2) ?_
    rintro _ g3 ⟨⟨c, c1, c2, u, rfl, ou⟩, co3, on3⟩
    have N3 := on3.1
    try simp only [hn_up] at N3
    have rowA3 : hg g3 (hn g1 .mk) .mk = _ := (on3.2 (hn g1 .mk) (by first | omega | (simp only [hn_up]; omega)) (by omega)).trans rowA2
    have rowR3 : hg g3 (hn g .mk) .mk = _ := (on3.2 (hn g .mk) (by first | omega | (simp only [hn_up]; omega)) (by omega)).trans rowR2
    have o3 : OnlyR g g3 b := o2.trans on3
    have ov3 : RowS (hn g .mk + 1 + 1) g3 v a.config.stops := RowS.only (ov2) on3 (by omega)
    have ow3 : OwnI (hn g .mk + 1 + 1) g3 w a.picks := OwnI.only (ow2) on3 (by omega)
    have oc3 := ou.cell
    repeat (first | rw [kz_o] | rw [kz_r0] | simp -dsimp -implicitDefEqProofs only [go_sem, Nat.reduceBEq, Nat.reduceAdd, Nat.reduceLeDiff, Nat.reduceMul, Int.reduceLE, Int.reduceLT, Int.reduceBEq, rowA3, rowR3, hne, oc, oc2, oc3, hoo])
    have na : blockOf u ≠ some (hn g1 .mk) := ou.ne rowA3 (by decide)
    have nr : blockOf u ≠ some (hn g .mk) := ou.ne rowR3 (by decide)
    have ma : blockOf w ≠ some (hn g1 .mk) := own_ne1 ow3 rowA3 (by decide)
    have mr : blockOf w ≠ some (hn g .mk) := own_ne1 ow3 rowR3 (by decide)
    exact ⟨⟨⟨a.op, a.text, a.pos, c, a.picks⟩, ⟨z1, by simp only; omega, c2, z4⟩, u, w, rfl, RowS.wide ((ou.set na).set nr) (by omega), own_wide (own_setq (own_setq ow3 ma) mr) (by omega)⟩, (co3.set_ne bA).set_ne bR, (o3.set_new (by omega)).set_new (by omega)⟩
  repeat (first | rw [kz_o] | rw [kz_r0] | simp -dsimp -implicitDefEqProofs only [go_sem, Nat.reduceBEq, Nat.reduceAdd, Nat.reduceLeDiff, Nat.reduceMul, Int.reduceLE, Int.reduceLT, Int.reduceBEq, h3, hoo, hne])
  refine gz_dec (fun h4 => ?_) (fun h4 => ?_)
  · repeat (first | rw [kz_o] | rw [kz_r0] | simp -dsimp -implicitDefEqProofs only [go_sem, Nat.reduceBEq, Nat.reduceAdd, Nat.reduceLeDiff, Nat.reduceMul, Int.reduceLE, Int.reduceLT, Int.reduceBEq, h4, hoo, hne])
    refine wz_intro (below_ok co2 (by omega)) ?_
    rintro _ g3 ⟨⟨q, rfl, q1, q2, q3⟩, co3, on3⟩
    have N3 := on3.1
    try simp only [hn_up] at N3
    have rowA3 : hg g3 (hn g1 .mk) .mk = _ := (on3.2 (hn g1 .mk) (by first | omega | (simp only [hn_up]; omega)) (by omega)).trans rowA2
    have rowR3 : hg g3 (hn g .mk) .mk = _ := (on3.2 (hn g .mk) (by first | omega | (simp only [hn_up]; omega)) (by omega)).trans rowR2
    have o3 : OnlyR g g3 b := o2.trans on3
    have ov3 : RowS (hn g .mk + 1 + 1) g3 v a.config.stops := RowS.only (ov2) on3 (by omega)
    have ow3 : OwnI (hn g .mk + 1 + 1) g3 w a.picks := OwnI.only (ow2) on3 (by omega)
    have hq := q2 (by omega)
    have wq : IntKind.i64.wrap (20 + q) = 20 + q := by rw [wrap_i64] <;> omega
    repeat (first | rw [kz_o] | rw [kz_r0] | simp -dsimp -implicitDefEqProofs only [go_sem, Nat.reduceBEq, Nat.reduceAdd, Nat.reduceLeDiff, Nat.reduceMul, Int.reduceLE, Int.reduceLT, Int.reduceBEq, wq])
    refine make_intro Go.Ai.ty_el27 Go.Ai.ty_zr3 (by simp) ⟨by omega, by have : Go.Ai.most = 1099511627776 := rfl; omega⟩ ?_
    have hne3 : (hn g1 .mk == hn g3 .mk) = false := by simp; omega
    have hneR : (hn g .mk == hn g3 .mk) = false := by simp; omega
    have orow : OwnI (hn g .mk + 1 + 1) (g3.push ⟨1, (Go.Ai.repL (20 + q).toNat [.int .i64 0]).map .raw⟩) (.raw (.slice (some ⟨hn g3 .mk, 0, none⟩) (20 + q).toNat (20 + q).toNat)) (List.replicate (20 + q).toNat 0) := by
      have e : (Go.Ai.repL (20 + q).toNat [.int .i64 0]).map X.raw = (List.replicate (20 + q).toNat (0 : Int)).map cI := by
        rw [List.map_replicate]
        generalize (20 + q).toNat = n
        induction n with
        | zero => rfl
        | succ n ih => simp only [Go.Ai.repL, List.replicate_succ, List.flatten_cons, List.map_append] at ih ⊢; rw [ih]; rfl
      rw [e]
      have := Own.new (N := hn g .mk + 1 + 1) (g := g3) (z := 1) (n := (20 + q).toNat) (cs := (List.replicate (20 + q).toNat (0 : Int)).map cI) (by omega) (by simp)
      unfold OwnI
      rw [List.length_replicate]; exact this
    repeat (first | rw [kz_o] | rw [kz_r0] | simp -dsimp -implicitDefEqProofs only [go_sem, Nat.reduceBEq, Nat.reduceAdd, Nat.reduceLeDiff, Nat.reduceMul, Int.reduceLE, Int.reduceLT, Int.reduceBEq, rowA3, rowR3, hne, hne3, hneR, oc, oc2, hoo])
    have na : blockOf v ≠ some (hn g1 .mk) := ov3.ne rowA3 (by decide)
    have nr : blockOf v ≠ some (hn g .mk) := ov3.ne rowR3 (by decide)
    have ma : blockOf (X.raw (.slice (some ⟨hn g3 .mk, 0, none⟩) (20 + q).toNat (20 + q).toNat)) ≠ some (hn g1 .mk) := fun e => by simp only [blockOf, Option.some.injEq] at e; omega
    have mr : blockOf (X.raw (.slice (some ⟨hn g3 .mk, 0, none⟩) (20 + q).toNat (20 + q).toNat)) ≠ some (hn g .mk) := fun e => by simp only [blockOf, Option.some.injEq] at e; omega
    exact ⟨⟨⟨a.op, a.text, a.pos, a.config, List.replicate (20 + q).toNat 0⟩, ⟨z1, z2, z3, by simp only [List.length_replicate]; omega⟩, v, _, rfl, RowS.wide (((ov3.keep (le_push (H2.le.refl _))).set na).set nr) (by omega), own_wide (own_setq (own_setq orow ma) mr) (by omega)⟩, ((co3.le (le_push (H2.le.refl _))).set_ne bA).set_ne bR, ((o3.push).set_new (by omega)).set_new (by omega)⟩
  repeat (first | rw [kz_o] | rw [kz_r0] | simp -dsimp -implicitDefEqProofs only [go_sem, Nat.reduceBEq, Nat.reduceAdd, Nat.reduceLeDiff, Nat.reduceMul, Int.reduceLE, Int.reduceLT, Int.reduceBEq, h4, hoo, hne])
  refine gz_dec (fun h5 => ?_) (fun h5 => ?_)
  · repeat (first | rw [kz_o] | rw [kz_r0] | simp -dsimp -implicitDefEqProofs only [go_sem, Nat.reduceBEq, Nat.reduceAdd, Nat.reduceLeDiff, Nat.reduceMul, Int.reduceLE, Int.reduceLT, Int.reduceBEq, h5, hoo, hne])
    refine wz_intro (text0_ok (n := 3) co2 (by omega)) ?_
    rintro _ g3 ⟨⟨s, rfl, hs⟩, co3, on3⟩
    have N3 := on3.1
    try simp only [hn_up] at N3
    have rowA3 : hg g3 (hn g1 .mk) .mk = _ := (on3.2 (hn g1 .mk) (by first | omega | (simp only [hn_up]; omega)) (by omega)).trans rowA2
    have rowR3 : hg g3 (hn g .mk) .mk = _ := (on3.2 (hn g .mk) (by first | omega | (simp only [hn_up]; omega)) (by omega)).trans rowR2
    have o3 : OnlyR g g3 b := o2.trans on3
    have ov3 : RowS (hn g .mk + 1 + 1) g3 v a.config.stops := RowS.only (ov2) on3 (by omega)
    have ow3 : OwnI (hn g .mk + 1 + 1) g3 w a.picks := OwnI.only (ow2) on3 (by omega)
    repeat (first | rw [kz_o] | rw [kz_r0] | simp -dsimp -implicitDefEqProofs only [go_sem, Nat.reduceBEq, Nat.reduceAdd, Nat.reduceLeDiff, Nat.reduceMul, Int.reduceLE, Int.reduceLT, Int.reduceBEq, rowA3, rowR3, hne, oc, oc2, hoo])
    have na : blockOf v ≠ some (hn g1 .mk) := ov3.ne rowA3 (by decide)
    have nr : blockOf v ≠ some (hn g .mk) := ov3.ne rowR3 (by decide)
    have ma : blockOf w ≠ some (hn g1 .mk) := own_ne1 ow3 rowA3 (by decide)
    have mr : blockOf w ≠ some (hn g .mk) := own_ne1 ow3 rowR3 (by decide)
    exact ⟨⟨⟨a.op, s, a.pos, a.config, a.picks⟩, ⟨by simp only; omega, z2, z3, z4⟩, v, w, rfl, RowS.wide ((ov3.set na).set nr) (by omega), own_wide (own_setq (own_setq ow3 ma) mr) (by omega)⟩, (co3.set_ne bA).set_ne bR, (o3.set_new (by omega)).set_new (by omega)⟩
  repeat (first | rw [kz_o] | rw [kz_r0] | simp -dsimp -implicitDefEqProofs only [go_sem, Nat.reduceBEq, Nat.reduceAdd, Nat.reduceLeDiff, Nat.reduceMul, Int.reduceLE, Int.reduceLT, Int.reduceBEq, h5, rowA2, rowR2, oc, oc2, hoo, hne])
  have na : blockOf v ≠ some (hn g1 .mk) := ov2.ne rowA2 (by decide)
  have nr : blockOf v ≠ some (hn g .mk) := ov2.ne rowR2 (by decide)
  have ma : blockOf w ≠ some (hn g1 .mk) := own_ne1 ow2 rowA2 (by decide)
  have mr : blockOf w ≠ some (hn g .mk) := own_ne1 ow2 rowR2 (by decide)
  exact ⟨⟨⟨a.op, a.text, a.pos, a.config, a.picks⟩, ⟨z1, z2, z3, z4⟩, v, w, rfl, RowS.wide (ov2.set nr) (by omega), own_wide (own_setq ow2 mr) (by omega)⟩, co2.set_ne bR, o2.set_new (by omega)⟩
end Go.Bi
