/- What FnAsks draws: asks. -/
import Derived.Test.YtjofbadmkigkjaaJb
set_option linter.unusedSimpArgs false
set_option linter.unusedVariables false
set_option maxRecDepth 20000
namespace Go.Bi
open Go.Proofs
open Go.Ai (wrap_i64 wrap_u64 wrap_u8)
variable {W0 : World} {P : Program}
set_option maxHeartbeats 2000000
theorem own_ne1 {N c z n : Nat} {g : H2} {v : X} {cs : List X} {k : List X} (o : Own N g v 1 n cs) (hc : hg g c .mk = some ⟨z, k⟩) (hz : z ≠ 1) : blockOf v ≠ some c := fun e => by
  obtain ⟨_, h⟩ := o
  rcases h with ⟨rfl, _⟩ | ⟨b, rfl, h1, h2, h3⟩
  · cases e
  · simp only [blockOf, Option.some.injEq] at e
    subst e
    rw [hc] at h3
    exact hz (by injection h3 with h3; injection h3)
theorem own_setq {N c z n : Nat} {g : H2} {v : X} {cs : List X} {k : OB} (o : Own N g v z n cs) (h : blockOf v ≠ some c) : Own N (g.set c k) v z n cs := own_q o (Nat.le_refl _) fun q hq => by rw [hg_set, show (q == c) = false by simp; intro e; exact h (by rw [hq, e])]; rfl
/-- A drawn ask: not too large. -/
def AskA (N : Nat) (g : H2) (x : X) (a : LAsk) : Prop := (a.text.size ≤ 100 ∧ a.config.stops.length ≤ 4 ∧ (∀ s ∈ a.config.stops, s.size ≤ 9) ∧ a.picks.length ≤ 100) ∧ ∃ v w, x = .st [.raw (.int .i64 a.op), .raw (.string a.text), .raw (.int .i64 a.pos), .raw (.int .i64 a.config.top), .raw (.int .i64 a.config.seed), .raw (.int .i64 a.config.new), v, w] ∧ RowS N g v a.config.stops ∧ OwnI N g w a.picks
theorem AskA.fit {N : Nat} {g : H2} {x : X} {a : LAsk} (h : AskA N g x a) : fitAsk a := ⟨by have := h.1.1; omega, ⟨by have := h.1.2.1; omega, fun s hs => by have := h.1.2.2.1 s hs; omega⟩, by have := h.1.2.2.2; omega⟩
theorem ask_ok {b e : Nat} {f : Adr} {bs : List Int} {g : H2} {x0 x1 x2 x3 x4 x5 x6 x7 x8 x9 x10 x11 x12 x13 x14 x15 : Value} (co : Cur g b f bs) : WC2 Try.prog W0 84 [.raw (.pointer (some ⟨b, 0, none⟩)), .st [.raw x0, .raw x1, .raw x2, .raw x3, .raw x4, .raw x5, .raw x6, .raw x7, .raw x8, .raw x9, .raw x10, .raw x11, .raw x12, .raw x13, .raw x14, .raw x15, .raw (.slice (some ⟨e, 0, none⟩) 3 3)]] g (fun x g' => (∃ a, AskA (hn g .mk) g' x a) ∧ Cur g' b f bs ∧ OnlyR g g' b) := by
  refine start (P := Try.prog) [[0, 1], [0, 3, 4], [0, 3, 4, 5], [0, 4, 5, 6], [0, 4, 5, 6], [0, 4, 5, 6], [0, 4, 5, 6], [0, 4, 5], [4, 5], [0, 4, 5, 6, 22], [0, 4, 5], [0, 4, 5], [0, 4, 5, 6, 22], [0, 4, 5, 6], [0, 4, 5], [0, 4, 5], [0, 4, 5, 6, 22], [0, 4, 5, 6], [4, 5]] (by kernel_rfl) Try.func84 rfl (by decide) (by decide +kernel) (rs := [.cell 4 29]) rfl rfl (Nat.le_of_ble_eq_true rfl) ?_
  intro wf
  repeat (first | rw [kz_o] | rw [kz_r0] | simp -dsimp -implicitDefEqProofs only [go_sem, Nat.reduceBEq, Nat.reduceAdd, Nat.reduceLeDiff, Nat.reduceMul, Int.reduceLE, Int.reduceLT, Int.reduceBEq])
  have hb := co.1
  refine wz_intro (pickInt_ok (zs := [1, 1, 2, 3, 4, 5, 5, 5, 5, 5, 5, 6]) (co.le (by repeat (first | exact H2.le.refl _ | apply le_push | refine le_up ?_ (Nat.le_succ _)))) (by simp) (by simp)) ?_
  rintro _ g1 ⟨⟨q, rfl, hq⟩, co1, on1⟩
  have N1 := on1.1
  simp only [hn_push, hn_up] at N1
  have hb1 := co1.1
  have bE : b ≠ hn g .mk := by omega
  have bR : b ≠ hn g .mk + 1 := by omega
  have bA : b ≠ hn g1 .mk := by omega
  have rowE1 := (on1.2 (hn g .mk) (by simp only [hn_push, hn_up]; omega) (by omega)).trans (by simp -dsimp -implicitDefEqProofs only [go_sem, Nat.reduceBEq, Nat.reduceAdd, Nat.reduceLeDiff, Nat.reduceMul, Int.reduceLE, Int.reduceLT, Int.reduceBEq, hoo] <;> rfl)
  have rowR1 := (on1.2 (hn g .mk + 1) (by simp only [hn_push, hn_up]; omega) (by omega)).trans (by simp -dsimp -implicitDefEqProofs only [go_sem, Nat.reduceBEq, Nat.reduceAdd, Nat.reduceLeDiff, Nat.reduceMul, Int.reduceLE, Int.reduceLT, Int.reduceBEq, hoo] <;> rfl)
  have hne : (hn g .mk == hn g1 .mk) = false := by simp; omega
  have hne1 : (hn g .mk + 1 == hn g1 .mk) = false := by simp; omega
  have o1 : OnlyR g g1 b := OnlyR.trans (OnlyR.refl.push.push.up (Nat.le_succ _)) on1
  repeat (first | rw [kz_o] | rw [kz_r0] | simp -dsimp -implicitDefEqProofs only [go_sem, Nat.reduceBEq, Nat.reduceAdd, Nat.reduceLeDiff, Nat.reduceMul, Int.reduceLE, Int.reduceLT, Int.reduceBEq, rowE1, hoo, hne, hne1])
  refine gz_dec (fun h => absurd h (by decide)) (fun h0 => ?_)
  repeat (first | rw [kz_o] | rw [kz_r0] | simp -dsimp -implicitDefEqProofs only [go_sem, Nat.reduceBEq, Nat.reduceAdd, Nat.reduceLeDiff, Nat.reduceMul, Int.reduceLE, Int.reduceLT, Int.reduceBEq, h0, hoo, hne, hne1])
  have w4 : IntKind.i64.wrap (((3 : Nat) : Int) + 1) = 4 := by decide
  refine gz_dec (fun h1 => ?_) (fun h1 => ?_)
  · repeat (first | rw [kz_o] | rw [kz_r0] | simp -dsimp -implicitDefEqProofs only [go_sem, Nat.reduceBEq, Nat.reduceAdd, Nat.reduceLeDiff, Nat.reduceMul, Int.reduceLE, Int.reduceLT, Int.reduceBEq, h1, hoo, hne, hne1])
    refine wz_intro (below_ok (co1.le (le_push (H2.le.refl _))) (by omega)) ?_
    rintro _ g2 ⟨⟨r, rfl, r1, r2, r3⟩, co2, on2⟩
    have N2 := on2.1
    try simp only [hn_push, hn_up, hn_set] at N2
    have rowA2 := (on2.2 (hn g1 .mk) (by first | omega | (simp only [hn_push, hn_up, hn_set]; omega)) (by omega)).trans (by simp -dsimp -implicitDefEqProofs only [go_sem, Nat.reduceBEq, Nat.reduceAdd, Nat.reduceLeDiff, Nat.reduceMul, Int.reduceLE, Int.reduceLT, Int.reduceBEq, hoo, rowR1] <;> rfl)
    have rowR2 := (on2.2 (hn g .mk + 1) (by first | omega | (simp only [hn_push, hn_up, hn_set]; omega)) (by omega)).trans (by simp -dsimp -implicitDefEqProofs only [go_sem, Nat.reduceBEq, Nat.reduceAdd, Nat.reduceLeDiff, Nat.reduceMul, Int.reduceLE, Int.reduceLT, Int.reduceBEq, hoo, hne1, rowR1] <;> rfl)
    
    have o2 : OnlyR g g2 b := o1.trans (OnlyR.trans OnlyR.refl.push on2)
    obtain ⟨k, rfl⟩ := Int.eq_ofNat_of_zero_le r1
    have hk := r2 (by omega)
    have wk : IntKind.i64.wrap (1 + (k : Int)) = ((1 + k : Nat) : Int) := by rw [wrap_i64] <;> omega
    repeat (first | rw [kz_o] | rw [kz_r0] | simp -dsimp -implicitDefEqProofs only [go_sem, Nat.reduceBEq, Nat.reduceAdd, Nat.reduceLeDiff, Nat.reduceMul, Int.reduceLE, Int.reduceLT, Int.reduceBEq, wk])
    refine wz_intro (text_ok co2 (by omega)) ?_
    rintro _ g3 ⟨⟨s, rfl, hs⟩, co3, on3⟩
    have N3 := on3.1
    try simp only [hn_push, hn_up, hn_set] at N3
    have rowA3 := (on3.2 (hn g1 .mk) (by first | omega | (simp only [hn_push, hn_up, hn_set]; omega)) (by omega)).trans (by simp -dsimp -implicitDefEqProofs only [go_sem, Nat.reduceBEq, Nat.reduceAdd, Nat.reduceLeDiff, Nat.reduceMul, Int.reduceLE, Int.reduceLT, Int.reduceBEq, hoo, rowR2, rowA2] <;> rfl)
    have rowR3 := (on3.2 (hn g .mk + 1) (by first | omega | (simp only [hn_push, hn_up, hn_set]; omega)) (by omega)).trans (by simp -dsimp -implicitDefEqProofs only [go_sem, Nat.reduceBEq, Nat.reduceAdd, Nat.reduceLeDiff, Nat.reduceMul, Int.reduceLE, Int.reduceLT, Int.reduceBEq, hoo, hne1, rowR2, rowA2] <;> rfl)
    
    have o3 : OnlyR g g3 b := o2.trans on3
    repeat (first | rw [kz_o] | rw [kz_r0] | simp -dsimp -implicitDefEqProofs only [go_sem, Nat.reduceBEq, Nat.reduceAdd, Nat.reduceLeDiff, Nat.reduceMul, Int.reduceLE, Int.reduceLT, Int.reduceBEq, rowA3, hoo, hne, hne1])
    refine wz_intro (config_ok (co3.set_ne bA)) ?_
    rintro _ g4 ⟨⟨c, hcfg, htop, v, rfl, ov⟩, co4, on4⟩
    have N4 := on4.1
    try simp only [hn_push, hn_up, hn_set] at N4
    have rowA4 := (on4.2 (hn g1 .mk) (by first | omega | (simp only [hn_push, hn_up, hn_set]; omega)) (by omega)).trans (by simp -dsimp -implicitDefEqProofs only [go_sem, Nat.reduceBEq, Nat.reduceAdd, Nat.reduceLeDiff, Nat.reduceMul, Int.reduceLE, Int.reduceLT, Int.reduceBEq, hoo, rowR3, rowA3] <;> rfl)
    have rowR4 := (on4.2 (hn g .mk + 1) (by first | omega | (simp only [hn_push, hn_up, hn_set]; omega)) (by omega)).trans (by simp -dsimp -implicitDefEqProofs only [go_sem, Nat.reduceBEq, Nat.reduceAdd, Nat.reduceLeDiff, Nat.reduceMul, Int.reduceLE, Int.reduceLT, Int.reduceBEq, hoo, hne1, rowR3, rowA3] <;> rfl)
    
    have o4 : OnlyR g g4 b := (o3.set_new (by omega)).trans on4
    have oc := own_cell ov
    have cf := cfg_facts hcfg
    repeat (first | rw [kz_o] | rw [kz_r0] | simp -dsimp -implicitDefEqProofs only [go_sem, Nat.reduceBEq, Nat.reduceAdd, Nat.reduceLeDiff, Nat.reduceMul, Int.reduceLE, Int.reduceLT, Int.reduceBEq, rowA4, rowR4, oc, hoo, hne, hne1])
    have na : blockOf v ≠ some (hn g1 .mk) := own_ne1 ov rowA4 (by decide)
    have nr : blockOf v ≠ some (hn g .mk + 1) := own_ne1 ov rowR4 (by decide)
    refine ⟨⟨⟨q, s, 0, ⟨c.top, c.seed, c.new, c.stops⟩, []⟩, ⟨by simp only; omega, by simp only; omega, fun t ht => ?_, by simp⟩, v, _, rfl, RowS.wide (((RowS.set (.inl ov) na)).set nr) (by simp only [hn_set]; omega), Own.nil⟩, (co4.set_ne bA).set_ne bR, (o4.set_new (by omega)).set_new (by omega)⟩
    replace ht : t ∈ c.stops := ht
    obtain ⟨i, hi, rfl⟩ := List.getElem_of_mem ht
    have := cf.2.2.2 i hi
    rw [List.getD_eq_getElem?_getD, List.getElem?_eq_getElem hi] at this
    simp only [Option.getD_some] at this; omega
  repeat (first | rw [kz_o] | rw [kz_r0] | simp -dsimp -implicitDefEqProofs only [go_sem, Nat.reduceBEq, Nat.reduceAdd, Nat.reduceLeDiff, Nat.reduceMul, Int.reduceLE, Int.reduceLT, Int.reduceBEq, h1, hoo, hne, hne1])
  refine gz_dec (fun h2 => ?_) (fun h2 => ?_)
  · repeat (first | rw [kz_o] | rw [kz_r0] | simp -dsimp -implicitDefEqProofs only [go_sem, Nat.reduceBEq, Nat.reduceAdd, Nat.reduceLeDiff, Nat.reduceMul, Int.reduceLE, Int.reduceLT, Int.reduceBEq, h2, w4, hoo, hne, hne1])
    refine wz_intro (below_ok (co1.le (le_push (H2.le.refl _))) (by omega)) ?_
    rintro _ g2 ⟨⟨r, rfl, r1, r2, r3⟩, co2, on2⟩
    have N2 := on2.1
    try simp only [hn_push, hn_up, hn_set] at N2
    have rowA2 := (on2.2 (hn g1 .mk) (by first | omega | (simp only [hn_push, hn_up, hn_set]; omega)) (by omega)).trans (by simp -dsimp -implicitDefEqProofs only [go_sem, Nat.reduceBEq, Nat.reduceAdd, Nat.reduceLeDiff, Nat.reduceMul, Int.reduceLE, Int.reduceLT, Int.reduceBEq, hoo, rowR1] <;> rfl)
    have rowR2 := (on2.2 (hn g .mk + 1) (by first | omega | (simp only [hn_push, hn_up, hn_set]; omega)) (by omega)).trans (by simp -dsimp -implicitDefEqProofs only [go_sem, Nat.reduceBEq, Nat.reduceAdd, Nat.reduceLeDiff, Nat.reduceMul, Int.reduceLE, Int.reduceLT, Int.reduceBEq, hoo, hne1, rowR1] <;> rfl)
    have o2 : OnlyR g g2 b := o1.trans (OnlyR.trans OnlyR.refl.push on2)
    repeat (first | rw [kz_o] | rw [kz_r0] | simp -dsimp -implicitDefEqProofs only [go_sem, Nat.reduceBEq, Nat.reduceAdd, Nat.reduceLeDiff, Nat.reduceMul, Int.reduceLE, Int.reduceLT, Int.reduceBEq, rowA2, hoo, hne, hne1])
    refine wz_intro (below_ok (co2.set_ne bA) (by omega)) ?_
    rintro _ g3 ⟨⟨t, rfl, t1, t2, t3⟩, co3, on3⟩
    have N3 := on3.1
    try simp only [hn_push, hn_up, hn_set] at N3
    have rowA3 := (on3.2 (hn g1 .mk) (by first | omega | (simp only [hn_push, hn_up, hn_set]; omega)) (by omega)).trans (by simp -dsimp -implicitDefEqProofs only [go_sem, Nat.reduceBEq, Nat.reduceAdd, Nat.reduceLeDiff, Nat.reduceMul, Int.reduceLE, Int.reduceLT, Int.reduceBEq, hoo, rowR2, rowA2] <;> rfl)
    have rowR3 := (on3.2 (hn g .mk + 1) (by first | omega | (simp only [hn_push, hn_up, hn_set]; omega)) (by omega)).trans (by simp -dsimp -implicitDefEqProofs only [go_sem, Nat.reduceBEq, Nat.reduceAdd, Nat.reduceLeDiff, Nat.reduceMul, Int.reduceLE, Int.reduceLT, Int.reduceBEq, hoo, hne1, rowR2, rowA2] <;> rfl)
    have o3 : OnlyR g g3 b := (o2.set_new (by omega)).trans on3
    repeat (first | rw [kz_o] | rw [kz_r0] | simp -dsimp -implicitDefEqProofs only [go_sem, Nat.reduceBEq, Nat.reduceAdd, Nat.reduceLeDiff, Nat.reduceMul, Int.reduceLE, Int.reduceLT, Int.reduceBEq, rowA3, hoo, hne, hne1])
    refine wz_intro (below_ok (co3.set_ne bA) (by omega)) ?_
    rintro _ g4 ⟨⟨u, rfl, u1, u2, u3⟩, co4, on4⟩
    have N4 := on4.1
    try simp only [hn_push, hn_up, hn_set] at N4
    have rowA4 := (on4.2 (hn g1 .mk) (by first | omega | (simp only [hn_push, hn_up, hn_set]; omega)) (by omega)).trans (by simp -dsimp -implicitDefEqProofs only [go_sem, Nat.reduceBEq, Nat.reduceAdd, Nat.reduceLeDiff, Nat.reduceMul, Int.reduceLE, Int.reduceLT, Int.reduceBEq, hoo, rowR3, rowA3] <;> rfl)
    have rowR4 := (on4.2 (hn g .mk + 1) (by first | omega | (simp only [hn_push, hn_up, hn_set]; omega)) (by omega)).trans (by simp -dsimp -implicitDefEqProofs only [go_sem, Nat.reduceBEq, Nat.reduceAdd, Nat.reduceLeDiff, Nat.reduceMul, Int.reduceLE, Int.reduceLT, Int.reduceBEq, hoo, hne1, rowR3, rowA3] <;> rfl)
    have o4 : OnlyR g g4 b := (o3.set_new (by omega)).trans on4
    repeat (first | rw [kz_o] | rw [kz_r0] | simp -dsimp -implicitDefEqProofs only [go_sem, Nat.reduceBEq, Nat.reduceAdd, Nat.reduceLeDiff, Nat.reduceMul, Int.reduceLE, Int.reduceLT, Int.reduceBEq, rowA4, rowR4, hoo, hne, hne1])
    exact ⟨⟨⟨q, ⟨#[]⟩, r, ⟨_, t, _, []⟩, []⟩, ⟨by simp [ByteArray.size], by simp, by simp, by simp⟩, _, _, rfl, .inl Own.nil, Own.nil⟩, (co4.set_ne bA).set_ne bR, (o4.set_new (by omega)).set_new (by omega)⟩
  repeat (first | rw [kz_o] | rw [kz_r0] | simp -dsimp -implicitDefEqProofs only [go_sem, Nat.reduceBEq, Nat.reduceAdd, Nat.reduceLeDiff, Nat.reduceMul, Int.reduceLE, Int.reduceLT, Int.reduceBEq, h2, hoo, hne, hne1])
  refine gz_dec (fun h3 => ?_) (fun h3 => ?_)
  · repeat (first | rw [kz_o] | rw [kz_r0] | simp -dsimp -implicitDefEqProofs only [go_sem, Nat.reduceBEq, Nat.reduceAdd, Nat.reduceLeDiff, Nat.reduceMul, Int.reduceLE, Int.reduceLT, Int.reduceBEq, h3, hoo, hne, hne1])
    refine wz_intro (picks_ok (co1.le (le_push (H2.le.refl _))) (by omega)) ?_
    rintro w g2 ⟨⟨zs, ow, hz⟩, co2, on2⟩
    have N2 := on2.1
    try simp only [hn_push, hn_up, hn_set] at N2
    have rowA2 := (on2.2 (hn g1 .mk) (by first | omega | (simp only [hn_push, hn_up, hn_set]; omega)) (by omega)).trans (by simp -dsimp -implicitDefEqProofs only [go_sem, Nat.reduceBEq, Nat.reduceAdd, Nat.reduceLeDiff, Nat.reduceMul, Int.reduceLE, Int.reduceLT, Int.reduceBEq, hoo, rowR1] <;> rfl)
    have rowR2 := (on2.2 (hn g .mk + 1) (by first | omega | (simp only [hn_push, hn_up, hn_set]; omega)) (by omega)).trans (by simp -dsimp -implicitDefEqProofs only [go_sem, Nat.reduceBEq, Nat.reduceAdd, Nat.reduceLeDiff, Nat.reduceMul, Int.reduceLE, Int.reduceLT, Int.reduceBEq, hoo, hne1, rowR1] <;> rfl)
    have o2 : OnlyR g g2 b := o1.trans (OnlyR.trans OnlyR.refl.push on2)
    have oc := own_cell ow
    repeat (first | rw [kz_o] | rw [kz_r0] | simp -dsimp -implicitDefEqProofs only [go_sem, Nat.reduceBEq, Nat.reduceAdd, Nat.reduceLeDiff, Nat.reduceMul, Int.reduceLE, Int.reduceLT, Int.reduceBEq, rowA2, rowR2, oc, hoo, hne, hne1])
    have na : blockOf w ≠ some (hn g1 .mk) := own_ne1 ow rowA2 (by decide)
    have nr : blockOf w ≠ some (hn g .mk + 1) := own_ne1 ow rowR2 (by decide)
    exact ⟨⟨⟨q, ⟨#[]⟩, 0, ⟨_, _, _, []⟩, zs⟩, ⟨by simp [ByteArray.size], by simp, by simp, by simp only; omega⟩, _, w, rfl, .inl Own.nil, own_wide (own_setq (own_setq ow na) nr) (by simp only [hn_push]; omega)⟩, (co2.set_ne bA).set_ne bR, (o2.set_new (by omega)).set_new (by omega)⟩
  repeat (first | rw [kz_o] | rw [kz_r0] | simp -dsimp -implicitDefEqProofs only [go_sem, Nat.reduceBEq, Nat.reduceAdd, Nat.reduceLeDiff, Nat.reduceMul, Int.reduceLE, Int.reduceLT, Int.reduceBEq, h3, w4, hoo, hne, hne1])
  refine wz_intro (below_ok (co1.le (le_push (H2.le.refl _))) (by omega)) ?_
  rintro _ g2 ⟨⟨r, rfl, r1, r2, r3⟩, co2, on2⟩
  have N2 := on2.1
  try simp only [hn_push, hn_up, hn_set] at N2
  have rowA2 := (on2.2 (hn g1 .mk) (by first | omega | (simp only [hn_push, hn_up, hn_set]; omega)) (by omega)).trans (by simp -dsimp -implicitDefEqProofs only [go_sem, Nat.reduceBEq, Nat.reduceAdd, Nat.reduceLeDiff, Nat.reduceMul, Int.reduceLE, Int.reduceLT, Int.reduceBEq, hoo, rowR1] <;> rfl)
  have rowR2 := (on2.2 (hn g .mk + 1) (by first | omega | (simp only [hn_push, hn_up, hn_set]; omega)) (by omega)).trans (by simp -dsimp -implicitDefEqProofs only [go_sem, Nat.reduceBEq, Nat.reduceAdd, Nat.reduceLeDiff, Nat.reduceMul, Int.reduceLE, Int.reduceLT, Int.reduceBEq, hoo, hne1, rowR1] <;> rfl)
  have o2 : OnlyR g g2 b := o1.trans (OnlyR.trans OnlyR.refl.push on2)
  repeat (first | rw [kz_o] | rw [kz_r0] | simp -dsimp -implicitDefEqProofs only [go_sem, Nat.reduceBEq, Nat.reduceAdd, Nat.reduceLeDiff, Nat.reduceMul, Int.reduceLE, Int.reduceLT, Int.reduceBEq, rowA2, hoo, hne, hne1])
  refine gz_dec (fun h4 => ?_) (fun h4 => ?_)
  · have d4 : decide (q = 3) = true := decide_eq_true h4
    repeat (first | rw [kz_o] | rw [kz_r0] | simp -dsimp -implicitDefEqProofs only [go_sem, Nat.reduceBEq, Nat.reduceAdd, Nat.reduceLeDiff, Nat.reduceMul, Int.reduceLE, Int.reduceLT, Int.reduceBEq, d4, hoo, hne, hne1])
    refine wz_intro (once_ok (co2.set_ne bA) (by omega)) ?_
    rintro _ g3 ⟨⟨t, rfl⟩, co3, on3⟩
    have N3 := on3.1
    try simp only [hn_push, hn_up, hn_set] at N3
    have rowA3 := (on3.2 (hn g1 .mk) (by first | omega | (simp only [hn_push, hn_up, hn_set]; omega)) (by omega)).trans (by simp -dsimp -implicitDefEqProofs only [go_sem, Nat.reduceBEq, Nat.reduceAdd, Nat.reduceLeDiff, Nat.reduceMul, Int.reduceLE, Int.reduceLT, Int.reduceBEq, hoo, rowR2, rowA2] <;> rfl)
    have rowR3 := (on3.2 (hn g .mk + 1) (by first | omega | (simp only [hn_push, hn_up, hn_set]; omega)) (by omega)).trans (by simp -dsimp -implicitDefEqProofs only [go_sem, Nat.reduceBEq, Nat.reduceAdd, Nat.reduceLeDiff, Nat.reduceMul, Int.reduceLE, Int.reduceLT, Int.reduceBEq, hoo, hne1, rowR2, rowA2] <;> rfl)
    have o3 : OnlyR g g3 b := (o2.set_new (by omega)).trans on3
    cases t
    · repeat (first | rw [kz_o] | rw [kz_r0] | simp -dsimp -implicitDefEqProofs only [go_sem, Nat.reduceBEq, Nat.reduceAdd, Nat.reduceLeDiff, Nat.reduceMul, Int.reduceLE, Int.reduceLT, Int.reduceBEq, d4, rowA3, rowR3, hoo, hne, hne1])
      exact ⟨⟨⟨_, ⟨#[]⟩, r, ⟨_, _, _, []⟩, []⟩, ⟨by simp [ByteArray.size], by simp, by simp, by simp⟩, _, _, rfl, .inl Own.nil, Own.nil⟩, (co3.set_ne bA).set_ne bR, (o3.set_new (by omega)).set_new (by omega)⟩
    · repeat (first | rw [kz_o] | rw [kz_r0] | simp -dsimp -implicitDefEqProofs only [go_sem, Nat.reduceBEq, Nat.reduceAdd, Nat.reduceLeDiff, Nat.reduceMul, Int.reduceLE, Int.reduceLT, Int.reduceBEq, d4, rowA3, rowR3, hoo, hne, hne1])
      exact ⟨⟨⟨_, ⟨#[]⟩, r, ⟨_, _, _, []⟩, []⟩, ⟨by simp [ByteArray.size], by simp, by simp, by simp⟩, _, _, rfl, .inl Own.nil, Own.nil⟩, co3.set_ne bR, o3.set_new (by omega)⟩
  · have d4 : decide (q = 3) = false := decide_eq_false h4
    repeat (first | rw [kz_o] | rw [kz_r0] | simp -dsimp -implicitDefEqProofs only [go_sem, Nat.reduceBEq, Nat.reduceAdd, Nat.reduceLeDiff, Nat.reduceMul, Int.reduceLE, Int.reduceLT, Int.reduceBEq, d4, rowA2, rowR2, hoo, hne, hne1])
    exact ⟨⟨⟨_, ⟨#[]⟩, r, ⟨_, _, _, []⟩, []⟩, ⟨by simp [ByteArray.size], by simp, by simp, by simp⟩, _, _, rfl, .inl Own.nil, Own.nil⟩, (co2.set_ne bA).set_ne bR, (o2.set_new (by omega)).set_new (by omega)⟩
end Go.Bi
