/- What FnAsks draws: any config. -/
import Derived.Test.YtjofbadmkigkjaaJa
import Derived.Test.YtjofbadmkigkjaaDd
set_option linter.unusedSimpArgs false
set_option linter.unusedVariables false
set_option maxRecDepth 20000
namespace Go.Bi
open Go.Proofs
open Go.Ai (wrap_i64 wrap_u64 wrap_u8)
variable {W0 : World} {P : Program}
set_option maxHeartbeats 2000000
theorem OnlyR.set_new {g g' : H2} {b c : Nat} {k : OB} (o : OnlyR g g' b) (hc : hn g .mk ≤ c) : OnlyR g (g'.set c k) b := ⟨o.1, fun d h1 h2 => by rw [hg_set, show (d == c) = false by simp; omega]; exact o.2 d h1 h2⟩
theorem Cur.set_ne {g : H2} {b c : Nat} {k : OB} {f : Adr} {bs : List Int} (co : Cur g b f bs) (h : b ≠ c) : Cur (g.set c k) b f bs := co.only OnlyR.refl.set h
theorem own_q {N z n : Nat} {g g' : H2} {v : X} {cs : List X} (o : Own N g v z n cs) (h1 : hn g .mk ≤ hn g' .mk) (h2 : ∀ q, blockOf v = some q → hg g' q .mk = hg g q .mk) : Own N g' v z n cs := by
  obtain ⟨a, h⟩ := o
  refine ⟨a, h.imp_right ?_⟩
  rintro ⟨q, rfl, e2, e3, e4⟩
  exact ⟨q, rfl, e2, Nat.lt_of_lt_of_le e3 h1, by rw [h2 q rfl]; exact e4⟩
/-- A row of texts: one's own, or one that stands for good. -/
def RowS (N : Nat) (g : H2) (v : X) (ss : List ByteArray) : Prop := OwnS N g v ss ∨ ∃ f, v = .sl f 1 (strs ss)
theorem RowS.cell {N : Nat} {g : H2} {v : X} {ss : List ByteArray} (o : RowS N g v ss) : cellsX v = some [v] ∧ okX v = true ∧ isTpX v = false := by
  rcases o with o | ⟨f, rfl⟩
  · exact own_cell o
  · exact ⟨rfl, rfl, rfl⟩
theorem RowS.q {N : Nat} {g g' : H2} {v : X} {ss : List ByteArray} (o : RowS N g v ss) (h1 : hn g .mk ≤ hn g' .mk) (h2 : ∀ q, blockOf v = some q → hg g' q .mk = hg g q .mk) : RowS N g' v ss := o.imp_left fun o => own_q o h1 h2
theorem RowS.set {N c : Nat} {g : H2} {v : X} {ss : List ByteArray} {k : OB} (o : RowS N g v ss) (h : blockOf v ≠ some c) : RowS N (g.set c k) v ss := o.q (Nat.le_refl _) fun q hq => by rw [hg_set, show (q == c) = false by simp; intro e; exact h (by rw [hq, e])]; rfl
theorem RowS.only {N b : Nat} {g g' : H2} {v : X} {ss : List ByteArray} (o : RowS N g v ss) (l : OnlyR g g' b) (hb : b < N) : RowS N g' v ss := o.imp_left fun o => own_only o l hb
theorem RowS.keep {N : Nat} {g g' : H2} {v : X} {ss : List ByteArray} (o : RowS N g v ss) (l : g.le g') : RowS N g' v ss := o.imp_left fun o => Own.keep o l
theorem RowS.wide {N N' : Nat} {g : H2} {v : X} {ss : List ByteArray} (o : RowS N g v ss) (h : N' ≤ N) : RowS N' g v ss := o.imp_left fun o => own_wide o h
theorem RowS.blk {N : Nat} {g : H2} {v : X} {ss : List ByteArray} (o : RowS N g v ss) : ∀ c, blockOf v = some c → N ≤ c ∧ c < hn g .mk := fun c e => by
  rcases o with o | ⟨f, rfl⟩
  · obtain ⟨_, h⟩ := o
    rcases h with ⟨rfl, _⟩ | ⟨b, rfl, h1, h2, _⟩
    · cases e
    · simp only [blockOf, Option.some.injEq] at e; omega
  · cases e
/-- The block of a row is none whose cells go in fours. -/
theorem RowS.ne {N c z : Nat} {g : H2} {v : X} {ss : List ByteArray} {k : List X} (o : RowS N g v ss) (hc : hg g c .mk = some ⟨z, k⟩) (hz : z ≠ 1) : blockOf v ≠ some c := fun e => by
  rcases o with o | ⟨f, rfl⟩
  · obtain ⟨_, h⟩ := o
    rcases h with ⟨rfl, _⟩ | ⟨b, rfl, h1, h2, h3⟩
    · cases e
    · simp only [blockOf, Option.some.injEq] at e
      subst e
      rw [hc] at h3
      exact hz (by injection h3 with h3; injection h3)
  · cases e
/-- A drawn config of any kind: not too large. -/
def CfgA (N : Nat) (g : H2) (x : X) (c : LConfig) : Prop := c.stops.length ≤ 4 ∧ (∀ s ∈ c.stops, s.size ≤ 9) ∧ ∃ v, x = .st [.raw (.int .i64 c.top), .raw (.int .i64 c.seed), .raw (.int .i64 c.new), v] ∧ RowS N g v c.stops
theorem any_ok {b : Nat} {f : Adr} {bs : List Int} {g : H2} (co : Cur g b f bs) : WC2 Try.prog W0 87 [.raw (.pointer (some ⟨b, 0, none⟩))] g (fun x g' => (∃ c, CfgA (hn g .mk) g' x c) ∧ Cur g' b f bs ∧ OnlyR g g' b) := by
  refine start (P := Try.prog) [[0], [0, 2], [0, 2, 3], [0, 2, 3, 7], [0, 2, 3], [0, 2, 3, 7], [0, 2, 3], [0, 2, 3, 7], [0, 2, 3], [0, 2, 3, 7], [0, 2, 3], [2, 3, 7], [2, 3], [2, 3]] (by kernel_rfl) Try.func87 rfl (by decide) (by decide +kernel) (rs := [.cell 2 26]) rfl rfl (Nat.le_of_ble_eq_true rfl) ?_
  intro wf
  repeat (first | rw [kz_o] | rw [kz_r0] | simp -dsimp -implicitDefEqProofs only [go_sem, Nat.reduceBEq, Nat.reduceAdd, Nat.reduceLeDiff, Nat.reduceMul, Int.reduceLE, Int.reduceLT, Int.reduceBEq])
  refine wz_intro (config_ok (co.le (by repeat (first | exact H2.le.refl _ | apply le_push | refine le_up ?_ (Nat.le_succ _))))) ?_
  rintro _ g1 ⟨⟨c, hcfg, htop, v, rfl, ov⟩, co1, on1⟩
  have oc := own_cell ov
  have cf := cfg_facts hcfg
  have hb := co.1
  have hb1 := co1.1
  have N1 := on1.1
  simp only [hn_push] at N1
  have rowR : hg g1 (hn g .mk) .mk = some ⟨4, [.raw (.int .i64 0), .raw (.int .i64 0), .raw (.int .i64 0), .raw (.slice none 0 0)]⟩ := (on1.2 (hn g .mk) (by simp only [hn_push]; omega) (by omega)).trans (by simp -dsimp -implicitDefEqProofs only [go_sem, Nat.reduceBEq, Nat.reduceAdd, Nat.reduceLeDiff, Nat.reduceMul, Int.reduceLE, Int.reduceLT, Int.reduceBEq, hoo])
  repeat (first | rw [kz_o] | rw [kz_r0] | simp -dsimp -implicitDefEqProofs only [go_sem, Nat.reduceBEq, Nat.reduceAdd, Nat.reduceLeDiff, Nat.reduceMul, Int.reduceLE, Int.reduceLT, Int.reduceBEq, oc, hoo])
  refine wz_intro (below_ok (co1.le (le_push (H2.le.refl _))) (by omega)) ?_
  rintro _ g2 ⟨⟨r, rfl, r1, r2, r3⟩, co2, on2⟩
  have N2 := on2.1
  simp only [hn_push] at N2
  have hne : (hn g .mk == hn g1 .mk) = false := by simp; omega
  have rowA2 : hg g2 (hn g1 .mk) .mk = some ⟨4, [.raw (.int .i64 c.top), .raw (.int .i64 c.seed), .raw (.int .i64 c.new), v]⟩ := (on2.2 (hn g1 .mk) (by simp only [hn_push]; omega) (by omega)).trans (by simp -dsimp -implicitDefEqProofs only [go_sem, Nat.reduceBEq, Nat.reduceAdd, Nat.reduceLeDiff, Nat.reduceMul, Int.reduceLE, Int.reduceLT, Int.reduceBEq, hoo])
  have rowR2 : hg g2 (hn g .mk) .mk = some ⟨4, [.raw (.int .i64 0), .raw (.int .i64 0), .raw (.int .i64 0), .raw (.slice none 0 0)]⟩ := (on2.2 (hn g .mk) (by simp only [hn_push]; omega) (by omega)).trans (by simp -dsimp -implicitDefEqProofs only [go_sem, Nat.reduceBEq, Nat.reduceAdd, Nat.reduceLeDiff, Nat.reduceMul, Int.reduceLE, Int.reduceLT, Int.reduceBEq, hne, rowR])
  have o2 : OnlyR g g2 b := OnlyR.trans (OnlyR.refl.push) (on1.trans (OnlyR.trans (OnlyR.refl.push) on2))
  have ov2 : OwnS (hn g .mk + 1) g2 v c.stops := by
    have := own_only (Own.keep ov (le_push (H2.le.refl _))) on2 (by rw [hn_push]; omega)
    rw [hn_push] at this; exact this
  have bA : b ≠ hn g1 .mk := by omega
  have bR : b ≠ hn g .mk := by omega
  have hgs : ∀ s ∈ c.stops, s.size ≤ 9 := fun s hs => by
    obtain ⟨i, hi, rfl⟩ := List.getElem_of_mem hs
    have := cf.2.2.2 i hi
    rw [List.getD_eq_getElem?_getD, List.getElem?_eq_getElem hi] at this
    simp only [Option.getD_some] at this; omega
  have cl := cf.2.2.1
  repeat (first | rw [kz_o] | rw [kz_r0] | simp -dsimp -implicitDefEqProofs only [go_sem, Nat.reduceBEq, Nat.reduceAdd, Nat.reduceLeDiff, Nat.reduceMul, Int.reduceLE, Int.reduceLT, Int.reduceBEq, rowA2, rowR2, hne, oc, hoo])
  refine gz_dec (fun h1 => ?_) (fun h1 => ?_)
  · repeat (first | rw [kz_o] | rw [kz_r0] | simp -dsimp -implicitDefEqProofs only [go_sem, Nat.reduceBEq, Nat.reduceAdd, Nat.reduceLeDiff, Nat.reduceMul, Int.reduceLE, Int.reduceLT, Int.reduceBEq, h1])
    refine wz_intro (pickInt_ok (zs := [0, 8, 9]) (co2.le (by repeat (first | exact H2.le.refl _ | apply le_push | refine le_up ?_ (Nat.le_succ _)))) (by simp) (by simp)) ?_
    rintro _ g3 ⟨⟨q, rfl, hq⟩, co3, on3⟩
    have N3 := on3.1
    simp only [hn_up] at N3
    have rowA3 : hg g3 (hn g1 .mk) .mk = _ := (on3.2 (hn g1 .mk) (by simp only [hn_up]; omega) (by omega)).trans rowA2
    have rowR3 : hg g3 (hn g .mk) .mk = _ := (on3.2 (hn g .mk) (by simp only [hn_up]; omega) (by omega)).trans rowR2
    have o3 : OnlyR g g3 b := o2.trans (OnlyR.trans (g' := g2.up (hn g2 .mk + 1)) (OnlyR.refl.up (Nat.le_succ _)) on3)
    have ov3 : OwnS (hn g .mk + 1) g3 v c.stops := own_only (Own.up ov2 (Nat.le_succ _)) on3 (by omega)
    repeat (first | rw [kz_o] | rw [kz_r0] | simp -dsimp -implicitDefEqProofs only [go_sem, Nat.reduceBEq, Nat.reduceAdd, Nat.reduceLeDiff, Nat.reduceMul, Int.reduceLE, Int.reduceLT, Int.reduceBEq, rowA3, rowR3, hne, oc, hoo])
    have na : blockOf v ≠ some (hn g1 .mk) := RowS.ne (N := hn g .mk + 1) (.inl ov3) rowA3 (by decide)
    have nr : blockOf v ≠ some (hn g .mk) := RowS.ne (N := hn g .mk + 1) (.inl ov3) rowR3 (by decide)
    exact ⟨⟨⟨q, c.seed, c.new, c.stops⟩, by simp only; omega, hgs, v, rfl, RowS.wide ((RowS.set (.inl ov3) na).set nr) (Nat.le_succ _)⟩, (co3.set_ne bA).set_ne bR, (o3.set_new (by omega)).set_new (Nat.le_refl _)⟩
  repeat (first | rw [kz_o] | rw [kz_r0] | simp -dsimp -implicitDefEqProofs only [go_sem, Nat.reduceBEq, Nat.reduceAdd, Nat.reduceLeDiff, Nat.reduceMul, Int.reduceLE, Int.reduceLT, Int.reduceBEq, h1])
  refine gz_dec (fun h2 => ?_) (fun h2 => ?_)
  · repeat (first | rw [kz_o] | rw [kz_r0] | simp -dsimp -implicitDefEqProofs only [go_sem, Nat.reduceBEq, Nat.reduceAdd, Nat.reduceLeDiff, Nat.reduceMul, Int.reduceLE, Int.reduceLT, Int.reduceBEq, h2])
    refine wz_intro (pickInt_ok (zs := [-1, 1000000000, 1000000001]) (co2.le (by repeat (first | exact H2.le.refl _ | apply le_push | refine le_up ?_ (Nat.le_succ _)))) (by simp) (by simp)) ?_
    rintro _ g3 ⟨⟨q, rfl, hq⟩, co3, on3⟩
    have N3 := on3.1
    simp only [hn_up] at N3
    have rowA3 : hg g3 (hn g1 .mk) .mk = _ := (on3.2 (hn g1 .mk) (by simp only [hn_up]; omega) (by omega)).trans rowA2
    have rowR3 : hg g3 (hn g .mk) .mk = _ := (on3.2 (hn g .mk) (by simp only [hn_up]; omega) (by omega)).trans rowR2
    have o3 : OnlyR g g3 b := o2.trans (OnlyR.trans (g' := g2.up (hn g2 .mk + 1)) (OnlyR.refl.up (Nat.le_succ _)) on3)
    have ov3 : OwnS (hn g .mk + 1) g3 v c.stops := own_only (Own.up ov2 (Nat.le_succ _)) on3 (by omega)
    repeat (first | rw [kz_o] | rw [kz_r0] | simp -dsimp -implicitDefEqProofs only [go_sem, Nat.reduceBEq, Nat.reduceAdd, Nat.reduceLeDiff, Nat.reduceMul, Int.reduceLE, Int.reduceLT, Int.reduceBEq, rowA3, rowR3, hne, oc, hoo])
    have na : blockOf v ≠ some (hn g1 .mk) := RowS.ne (N := hn g .mk + 1) (.inl ov3) rowA3 (by decide)
    have nr : blockOf v ≠ some (hn g .mk) := RowS.ne (N := hn g .mk + 1) (.inl ov3) rowR3 (by decide)
    exact ⟨⟨⟨c.top, q, c.new, c.stops⟩, by simp only; omega, hgs, v, rfl, RowS.wide ((RowS.set (.inl ov3) na).set nr) (Nat.le_succ _)⟩, (co3.set_ne bA).set_ne bR, (o3.set_new (by omega)).set_new (Nat.le_refl _)⟩
  repeat (first | rw [kz_o] | rw [kz_r0] | simp -dsimp -implicitDefEqProofs only [go_sem, Nat.reduceBEq, Nat.reduceAdd, Nat.reduceLeDiff, Nat.reduceMul, Int.reduceLE, Int.reduceLT, Int.reduceBEq, h2])
  refine gz_dec (fun h3 => ?_) (fun h3 => ?_)
  · repeat (first | rw [kz_o] | rw [kz_r0] | simp -dsimp -implicitDefEqProofs only [go_sem, Nat.reduceBEq, Nat.reduceAdd, Nat.reduceLeDiff, Nat.reduceMul, Int.reduceLE, Int.reduceLT, Int.reduceBEq, h3])
    refine wz_intro (pickInt_ok (zs := [0, 24, 25]) (co2.le (by repeat (first | exact H2.le.refl _ | apply le_push | refine le_up ?_ (Nat.le_succ _)))) (by simp) (by simp)) ?_
    rintro _ g3 ⟨⟨q, rfl, hq⟩, co3, on3⟩
    have N3 := on3.1
    simp only [hn_up] at N3
    have rowA3 : hg g3 (hn g1 .mk) .mk = _ := (on3.2 (hn g1 .mk) (by simp only [hn_up]; omega) (by omega)).trans rowA2
    have rowR3 : hg g3 (hn g .mk) .mk = _ := (on3.2 (hn g .mk) (by simp only [hn_up]; omega) (by omega)).trans rowR2
    have o3 : OnlyR g g3 b := o2.trans (OnlyR.trans (g' := g2.up (hn g2 .mk + 1)) (OnlyR.refl.up (Nat.le_succ _)) on3)
    have ov3 : OwnS (hn g .mk + 1) g3 v c.stops := own_only (Own.up ov2 (Nat.le_succ _)) on3 (by omega)
    repeat (first | rw [kz_o] | rw [kz_r0] | simp -dsimp -implicitDefEqProofs only [go_sem, Nat.reduceBEq, Nat.reduceAdd, Nat.reduceLeDiff, Nat.reduceMul, Int.reduceLE, Int.reduceLT, Int.reduceBEq, rowA3, rowR3, hne, oc, hoo])
    have na : blockOf v ≠ some (hn g1 .mk) := RowS.ne (N := hn g .mk + 1) (.inl ov3) rowA3 (by decide)
    have nr : blockOf v ≠ some (hn g .mk) := RowS.ne (N := hn g .mk + 1) (.inl ov3) rowR3 (by decide)
    exact ⟨⟨⟨c.top, c.seed, q, c.stops⟩, by simp only; omega, hgs, v, rfl, RowS.wide ((RowS.set (.inl ov3) na).set nr) (Nat.le_succ _)⟩, (co3.set_ne bA).set_ne bR, (o3.set_new (by omega)).set_new (Nat.le_refl _)⟩
  repeat (first | rw [kz_o] | rw [kz_r0] | simp -dsimp -implicitDefEqProofs only [go_sem, Nat.reduceBEq, Nat.reduceAdd, Nat.reduceLeDiff, Nat.reduceMul, Int.reduceLE, Int.reduceLT, Int.reduceBEq, h3])
  refine gz_dec (fun h4 => ?_) (fun h4 => ?_)
  · repeat (first | rw [kz_o] | rw [kz_r0] | simp -dsimp -implicitDefEqProofs only [go_sem, Nat.reduceBEq, Nat.reduceAdd, Nat.reduceLeDiff, Nat.reduceMul, Int.reduceLE, Int.reduceLT, Int.reduceBEq, h4])
    refine dq_intro [(0, []), (1, []), (2, []), (3, [1]), (4, [1]), (5, [1]), (6, []), (7, []), (8, [])] (by kernel_rfl) ?_
    repeat (first | rw [kz_o] | rw [kz_r0] | simp -dsimp -implicitDefEqProofs only [go_sem, Nat.reduceBEq, Nat.reduceAdd, Nat.reduceLeDiff, Nat.reduceMul, Int.reduceLE, Int.reduceLT, Int.reduceBEq, h4, rowA2, oc, hoo])
    refine wz_intro (pick_ok (zs := [⟨#[]⟩, ⟨#[49, 50, 51, 52, 53, 54, 55, 56]⟩, ⟨#[49, 50, 51, 52, 53, 54, 55, 56, 57]⟩]) (co2.le (by repeat (first | exact H2.le.refl _ | apply le_push | refine le_up ?_ (Nat.le_succ _)))) (by simp) (by simp)) ?_
    rintro _ g3 ⟨⟨q, rfl, hq⟩, co3, on3⟩
    have N3 := on3.1
    simp only [hn_up] at N3
    have rowA3 : hg g3 (hn g1 .mk) .mk = _ := (on3.2 (hn g1 .mk) (by simp only [hn_up]; omega) (by omega)).trans rowA2
    have rowR3 : hg g3 (hn g .mk) .mk = _ := (on3.2 (hn g .mk) (by simp only [hn_up]; omega) (by omega)).trans rowR2
    have o3 : OnlyR g g3 b := o2.trans (OnlyR.trans (g' := g2.up (hn g2 .mk + 1)) (OnlyR.refl.up (Nat.le_succ _)) on3)
    have ov3 : OwnS (hn g .mk + 1) g3 v c.stops := own_only (Own.up ov2 (Nat.le_succ _)) on3 (by omega)
    have hq9 : q.size ≤ 9 := by
      simp only [List.mem_cons, List.not_mem_nil, or_false] at hq
      rcases hq with rfl | rfl | rfl <;> decide
    rw [kz_r]
    refine ⟨by simp -dsimp -implicitDefEqProofs only [go_sem, Nat.reduceBEq, Nat.reduceAdd, Nat.reduceLeDiff, Nat.reduceMul, Int.reduceLE, Int.reduceLT, Int.reduceBEq, rowA3], ?_⟩
    repeat (first | rw [kz_o] | rw [kz_r0] | simp -dsimp -implicitDefEqProofs only [go_sem, Nat.reduceBEq, Nat.reduceAdd, Nat.reduceLeDiff, Nat.reduceMul, Int.reduceLE, Int.reduceLT, Int.reduceBEq, rowA3])
    refine append_s1 (P := Try.prog) (D := fun _ => none) (N := hn g .mk + 1) Go.Ai.ty_el24 Go.Ai.ty_zr9 Go.Ai.ty_cl24 (Own.up ov3 (Nat.le_succ _)) (by rw [hn_up]; omega) (by have : Go.Ai.most = 1099511627776 := rfl; omega) ?_
    intro v4 g4 ov4 nn4 le4 on4
    simp only [hn_up] at nn4
    have na3 : blockOf v ≠ some (hn g1 .mk) := RowS.ne (N := hn g .mk + 1) (.inl ov3) rowA3 (by decide)
    have nr3 : blockOf v ≠ some (hn g .mk) := RowS.ne (N := hn g .mk + 1) (.inl ov3) rowR3 (by decide)
    have rowA4 : hg g4 (hn g1 .mk) .mk = _ := (on4 (hn g1 .mk) (by rw [hn_up]; omega) na3).trans rowA3
    have rowR4 : hg g4 (hn g .mk) .mk = _ := (on4 (hn g .mk) (by rw [hn_up]; omega) nr3).trans rowR3
    have oc4 := own_cell ov4
    have o4 : OnlyR g g4 b := ⟨by omega, fun c h1 h2 => (on4 c (by rw [hn_up]; omega) (own_apart ov3 (by omega))).trans (o3.2 c h1 h2)⟩
    have co4 : Cur g4 b f bs := ⟨by omega, co3.2.1, by
      obtain ⟨q1, q2, q3, q4⟩ := co3.2.2
      exact ⟨q1, q2, (on4 b (by rw [hn_up]; have := co3.1; omega) (own_apart ov3 (by omega))).trans q3, q4⟩⟩
    repeat (first | rw [kz_o] | rw [kz_r0] | simp -dsimp -implicitDefEqProofs only [go_sem, Nat.reduceBEq, Nat.reduceAdd, Nat.reduceLeDiff, Nat.reduceMul, Int.reduceLE, Int.reduceLT, Int.reduceBEq, rowA4, rowR4, hne, oc4, hoo])
    have na : blockOf v4 ≠ some (hn g1 .mk) := RowS.ne (N := hn g .mk + 1) (.inl ov4) rowA4 (by decide)
    have nr : blockOf v4 ≠ some (hn g .mk) := RowS.ne (N := hn g .mk + 1) (.inl ov4) rowR4 (by decide)
    exact ⟨⟨⟨c.top, c.seed, c.new, c.stops ++ [q]⟩, by simp only [List.length_append, List.length_singleton]; omega, (fun s hs => by rcases List.mem_append.1 hs with hs | hs; exact hgs s hs; simp at hs; subst hs; exact hq9), v4, rfl, RowS.wide ((RowS.set (.inl ov4) na).set nr) (Nat.le_succ _)⟩, (co4.set_ne bA).set_ne bR, (o4.set_new (by omega)).set_new (Nat.le_refl _)⟩
  repeat (first | rw [kz_o] | rw [kz_r0] | simp -dsimp -implicitDefEqProofs only [go_sem, Nat.reduceBEq, Nat.reduceAdd, Nat.reduceLeDiff, Nat.reduceMul, Int.reduceLE, Int.reduceLT, Int.reduceBEq, h4])
  refine gz_dec (fun h5 => ?_) (fun h5 => ?_)
  · repeat (first | rw [kz_o] | rw [kz_r0] | simp -dsimp -implicitDefEqProofs only [go_sem, Nat.reduceBEq, Nat.reduceAdd, Nat.reduceLeDiff, Nat.reduceMul, Int.reduceLE, Int.reduceLT, Int.reduceBEq, h5, rowA2, rowR2, hne, oc, hoo])
    refine ⟨⟨⟨c.top, c.seed, c.new, [⟨#[97]⟩, ⟨#[98]⟩, ⟨#[99]⟩, ⟨#[100]⟩]⟩, by simp, fun s hs => ?_, _, rfl, .inr ⟨_, rfl⟩⟩, ((co2.le (le_up (H2.le.refl _) (Nat.le_succ _))).set_ne bA).set_ne bR, ((o2.up (Nat.le_succ _)).set_new (by omega)).set_new (Nat.le_refl _)⟩
    simp only [List.mem_cons, List.not_mem_nil, or_false] at hs
    rcases hs with rfl | rfl | rfl | rfl <;> decide
  repeat (first | rw [kz_o] | rw [kz_r0] | simp -dsimp -implicitDefEqProofs only [go_sem, Nat.reduceBEq, Nat.reduceAdd, Nat.reduceLeDiff, Nat.reduceMul, Int.reduceLE, Int.reduceLT, Int.reduceBEq, h5, rowA2, rowR2, hne, oc, hoo])
  have na : blockOf v ≠ some (hn g1 .mk) := RowS.ne (N := hn g .mk + 1) (.inl ov2) rowA2 (by decide)
  have nr : blockOf v ≠ some (hn g .mk) := RowS.ne (N := hn g .mk + 1) (.inl ov2) rowR2 (by decide)
  exact ⟨⟨⟨c.top, c.seed, c.new, c.stops⟩, by simp only; omega, hgs, v, rfl, RowS.wide (RowS.set (.inl ov2) nr) (Nat.le_succ _)⟩, co2.set_ne bR, o2.set_new (Nat.le_refl _)⟩
end Go.Bi
