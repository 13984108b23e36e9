/- The walk of the law FnChooses. -/
import Derived.Test.YtdakdjpndomdpaaDt
import Derived.Test.YtdakdjpndomdpaaGe
import Derived.Test.YtdakdjpndomdpaaGg
set_option linter.unusedSimpArgs false
set_option linter.unusedVariables false
set_option maxRecDepth 20000
namespace Go.Bi
open Go.Proofs
open Go.Ai (wrap_i64 wrap_u64 wrap_u8 Heap chanceI)
variable {W0 : World} {P : Program}
set_option maxHeartbeats 4000000
theorem within_ok {f : Adr} {zs : List Int} {x : Int} {g : H2} (hs : zs.length ≤ 1048576) : PW Try.prog W0 47 [.sl f 1 (ints zs), .raw (.int .i64 x)] g (fun y => y = .raw (.bool (decide (x ∈ zs)))) := by
  refine PW.scalar ((?_ : WC2 _ _ _ _ _ fun v g' => g' = g ∧ v = .raw (.bool (decide (x ∈ zs)))).mono fun v g' ⟨h1, h2⟩ => ⟨by rw [h1]; exact H2.le.refl _, ⟨_, h2⟩, h2⟩)
  refine start (P := Try.prog) [[0, 1], [0, 1], [0, 1, 5], [0, 1, 5], [0, 1, 5], [], []] (by kernel_rfl) Try.func47 rfl (by decide) (by decide +kernel) (rs := [.tmp 4]) rfl rfl (Nat.le_of_ble_eq_true rfl) ?_
  intro wf
  repeat (first | rw [kz_o] | rw [kz_r0] | simp -dsimp -implicitDefEqProofs only [go_sem, Nat.reduceBEq, Nat.reduceAdd, Nat.reduceLeDiff, Nat.reduceMul, Int.reduceLE, Int.reduceLT, Int.reduceBEq])
  refine lz_keep [0, 1] (fun m e h' => ∃ i : Nat, h' = g ∧ look e 5 .mk = .raw (.int .i64 (i : Nat)) ∧ m + i = zs.length ∧ ∀ j, j < i → zs.getD j default ≠ x) zs.length ?_ ?_
  · exact ⟨0, rfl, by simp -dsimp -implicitDefEqProofs only [go_sem, Nat.reduceBEq, Nat.reduceAdd, Nat.reduceLeDiff, Nat.reduceMul, Int.reduceLE, Int.reduceLT, Int.reduceBEq], by omega, fun j hj => by omega⟩
  · rintro m e h' hks ⟨i, rfl, e5, hm, hpre⟩
    simp -dsimp -implicitDefEqProofs only [go_sem, Nat.reduceBEq, Nat.reduceAdd, Nat.reduceLeDiff, Nat.reduceMul, Int.reduceLE, Int.reduceLT, Int.reduceBEq] at hks
    repeat (first | rw [kz_o] | rw [kz_r0] | simp -dsimp -implicitDefEqProofs only [go_sem, Nat.reduceBEq, Nat.reduceAdd, Nat.reduceLeDiff, Nat.reduceMul, Int.reduceLE, Int.reduceLT, Int.reduceBEq, hks, e5])
    refine gz_dec (fun h2 => ?_) (fun h2 => ?_)
    · have h3 : i < zs.length := by omega
      repeat (first | rw [kz_o] | rw [kz_r0] | simp -dsimp -implicitDefEqProofs only [go_sem, Nat.reduceBEq, Nat.reduceAdd, Nat.reduceLeDiff, Nat.reduceMul, Int.reduceLE, Int.reduceLT, Int.reduceBEq, hks, e5, h3])
      refine gz_dec (fun h4 => ?_) (fun h4 => ?_)
      · repeat (first | rw [kz_o] | rw [kz_r0] | simp -dsimp -implicitDefEqProofs only [go_sem, Nat.reduceBEq, Nat.reduceAdd, Nat.reduceLeDiff, Nat.reduceMul, Int.reduceLE, Int.reduceLT, Int.reduceBEq])
        have : x ∈ zs := by
          rw [← h4, List.getD_eq_getElem?_getD, List.getElem?_eq_getElem h3]; exact List.getElem_mem h3
        exact ⟨rfl, by rw [decide_eq_true this]⟩
      · have w1 : IntKind.i64.wrap ((i : Int) + 1) = ((i + 1 : Nat) : Int) := by rw [wrap_i64] <;> omega
        repeat (first | rw [kz_o] | rw [kz_r0] | simp -dsimp -implicitDefEqProofs only [go_sem, Nat.reduceBEq, Nat.reduceAdd, Nat.reduceLeDiff, Nat.reduceMul, Int.reduceLE, Int.reduceLT, Int.reduceBEq, hks, e5, w1])
        refine nx_keep (m - 1) (by omega) (by simp -dsimp -implicitDefEqProofs only [go_sem, Nat.reduceBEq, Nat.reduceAdd, Nat.reduceLeDiff, Nat.reduceMul, Int.reduceLE, Int.reduceLT, Int.reduceBEq, hks]) ⟨i + 1, rfl, by simp -dsimp -implicitDefEqProofs only [go_sem, Nat.reduceBEq, Nat.reduceAdd, Nat.reduceLeDiff, Nat.reduceMul, Int.reduceLE, Int.reduceLT, Int.reduceBEq, w1], by omega, fun j hj => ?_⟩
        by_cases hji : j = i
        · subst hji; exact h4
        · exact hpre j (by omega)
    · repeat (first | rw [kz_o] | rw [kz_r0] | simp -dsimp -implicitDefEqProofs only [go_sem, Nat.reduceBEq, Nat.reduceAdd, Nat.reduceLeDiff, Nat.reduceMul, Int.reduceLE, Int.reduceLT, Int.reduceBEq])
      refine ⟨rfl, ?_⟩
      rw [decide_eq_false]
      intro hx
      obtain ⟨j, hj, e⟩ := List.getElem_of_mem hx
      refine hpre j (by omega) ?_
      rw [List.getD_eq_getElem?_getD, List.getElem?_eq_getElem hj]; exact e
theorem choose_right {c : LConfig} {s : Int} {zs : List Int} (hc : cfgOk c = true) (h1 : 1 ≤ zs.length) (h2 : zs.length ≤ 400) (ha : ∀ z ∈ zs, -1000000 ≤ z ∧ z ≤ 1000000) :
    ∃ K, chooseI c s zs = (lat (topI zs c.top) K, (if c.top = 1 then s else nextU s), true) ∧ K < (topI zs c.top).length ∧ (c.top = 1 → K = 0) := by
  have htop : inI c.top 1 8 = true := by unfold cfgOk at hc; simp only [Bool.and_eq_true] at hc; exact hc.1
  have hl : inI zs.length 1 400 = true := by simp only [inI, Bool.and_eq_true, decide_eq_true_eq]; omega
  have hall : allI zs (-1000000) 1000000 = true := by
    rw [allI, List.all_eq_true]; intro z hz
    have := ha z hz
    simp only [inI, Bool.and_eq_true, decide_eq_true_eq]; omega
  have tl := topI_len1 (zs := zs) htop h1 h2
  by_cases h : c.top = 1
  · exact ⟨0, by rw [chooseI, if_pos ⟨hc, hl, hall⟩, if_pos h, if_pos h], by omega, fun _ => rfl⟩
  · have hmem : ∀ x ∈ topI zs c.top, 0 ≤ x ∧ x < zs.length := fun x hx => topI_mem hx
    have sr := sum_rng hmem tl.1 tl.2
    obtain ⟨_, d0, d1⟩ := drawn_rng (s := s) sr
    refine ⟨_, by rw [chooseI, if_pos ⟨hc, hl, hall⟩, if_neg h, if_neg h], ?_, fun e => absurd e h⟩
    rw [← (chance_len hmem).1]
    exact pickI_lt d1 d0
theorem FnChooses_ok {f : Adr} {bs : List Int} {g : H2} : WC2 Try.prog W0 11 [.sl f 1 (u8s bs)] g (fun v g' => v = .raw (.bool true)) := by
  refine start (P := Try.prog) [[0], [0], [], [0], [3, 4, 5], [3, 4, 5, 6, 7, 8], [3, 4, 5, 6, 7, 8, 9, 10, 11], [], [3, 4, 5, 6, 7], [3, 4, 5, 6, 7, 12], [], [3, 4, 5, 7, 12], [3, 4, 5, 7, 12, 13], [3, 4, 5, 7, 12, 13], [3, 4, 5, 7, 12, 13], [], [3, 4, 5, 7, 12], [3, 4, 5, 7, 12, 14], [3, 4, 5, 7, 12, 14], [3, 4, 5, 7, 12, 14], [], [3, 4, 5, 7, 12], [3, 4, 5, 7, 12, 15], [3, 4, 5, 7, 12, 15], [3, 4, 5, 7, 12, 16, 17, 18], [3, 4, 7, 12, 16, 17, 18, 19]] (by kernel_rfl) Try.func11 rfl (by decide) (by decide +kernel) (rs := [.tmp 2]) rfl rfl (Nat.le_of_ble_eq_true rfl) ?_
  intro wf
  repeat (first | rw [kz_o] | rw [kz_r0] | simp -dsimp -implicitDefEqProofs only [go_sem, Nat.reduceBEq, Nat.reduceAdd, Nat.reduceLeDiff, Nat.reduceMul, Int.reduceLE, Int.reduceLT, Int.reduceBEq])
  refine wz_intro big_ok ?_
  rintro _ g1 ⟨rfl, rfl⟩
  by_cases hbig : (1048576 : Int) < bs.length
  · repeat (first | rw [kz_o] | rw [kz_r0] | simp -dsimp -implicitDefEqProofs only [go_sem, Nat.reduceBEq, Nat.reduceAdd, Nat.reduceLeDiff, Nat.reduceMul, Int.reduceLE, Int.reduceLT, Int.reduceBEq, hbig])
    rfl
  repeat (first | rw [kz_o] | rw [kz_r0] | simp -dsimp -implicitDefEqProofs only [go_sem, Nat.reduceBEq, Nat.reduceAdd, Nat.reduceLeDiff, Nat.reduceMul, Int.reduceLE, Int.reduceLT, Int.reduceBEq, hbig])
  refine wz_intro (draw_ok (by omega)) ?_
  rintro _ g2 ⟨c, s, zs, v, w, M, rfl, hcfg, hs, hz, hzb, l2, ov, ow, hvw⟩
  have oc := own_cell ov
  have oc2 := own_cell ow
  have hfit : fitConfig c := by
    unfold cfgOk at hcfg
    simp only [Bool.and_eq_true, decide_eq_true_eq, stopsOk, List.all_eq_true, inI] at hcfg
    exact ⟨by omega, fun q hq => by have := hcfg.2.2.2.2 q hq; omega⟩
  have htop : inI c.top 1 8 = true := by unfold cfgOk at hcfg; simp only [Bool.and_eq_true] at hcfg; exact hcfg.1
  have hzb2 : ∀ z ∈ zs, -1000000 ≤ z ∧ z ≤ 1000000 := fun z hz => by have := hzb z hz; omega
  obtain ⟨K, hch, hK, hK1⟩ := choose_right (s := s) hcfg hz.1 (by omega) hzb2
  obtain ⟨bv, tv, blv⟩ := OwnS.tree ov
  obtain ⟨bw, tw, blw⟩ := OwnI.tree ow
  have tl := topI_len1 (zs := zs) htop (by omega) (by omega)
  repeat (first | rw [kz_o] | rw [kz_r0] | simp -dsimp -implicitDefEqProofs only [go_sem, Nat.reduceBEq, Nat.reduceAdd, Nat.reduceLeDiff, Nat.reduceMul, Int.reduceLE, Int.reduceLT, Int.reduceBEq, oc, oc2, hoo])
  have tv1 := tv.keep (le_push (k := ⟨4, [.raw (.int .i64 c.top), .raw (.int .i64 c.seed), .raw (.int .i64 c.new), v]⟩) (H2.le.refl _)) blv
  have tw1 := tw.keep (le_push (k := ⟨4, [.raw (.int .i64 c.top), .raw (.int .i64 c.seed), .raw (.int .i64 c.new), v]⟩) (H2.le.refl _)) blw
  refine wz_intro (implChoose_tree (outConfig tv1) tw1 hfit (by omega)) ?_
  rintro _ g3 ⟨l3, rfl⟩
  have row3 : hg g3 (hn g2 .mk) .mk = some ⟨4, [.raw (.int .i64 c.top), .raw (.int .i64 c.seed), .raw (.int .i64 c.new), v]⟩ := (l3.2 (hn g2 .mk) (by rw [hn_push]; omega)).trans (by simp -dsimp -implicitDefEqProofs only [go_sem, Nat.reduceBEq, Nat.reduceAdd, Nat.reduceLeDiff, Nat.reduceMul, Int.reduceLE, Int.reduceLT, Int.reduceBEq, hoo])
  have L3 : g2.le g3 := H2.le.trans (le_push (H2.le.refl _)) l3
  have n3 := l3.1
  rw [hn_push] at n3
  rw [hch]
  repeat (first | rw [kz_o] | rw [kz_r0] | simp -dsimp -implicitDefEqProofs only [go_sem, Nat.reduceBEq, Nat.reduceAdd, Nat.reduceLeDiff, Nat.reduceMul, Int.reduceLE, Int.reduceLT, Int.reduceBEq, row3, oc, oc2])
  refine wz_intro (implChoose_tree (outConfig (tv.keep L3 blv)) (tw.keep L3 blw) hfit (by omega)) ?_
  rintro _ g4 ⟨l4, rfl⟩
  have row4 := (l4.2 (hn g2 .mk) (by omega)).trans row3
  have L4 : g2.le g4 := L3.trans l4
  rw [hch]
  repeat (first | rw [kz_o] | rw [kz_r0] | simp -dsimp -implicitDefEqProofs only [go_sem, Nat.reduceBEq, Nat.reduceAdd, Nat.reduceLeDiff, Nat.reduceMul, Int.reduceLE, Int.reduceLT, Int.reduceBEq, row4, oc, oc2, hoo])
  obtain ⟨Fw, hFw⟩ := (OwnI.keep ow L4).lent
  refine wz_intro (PI.lend (.cons hFw (.cons lent_raw .nil)) implTopOf_ok) ?_
  rintro v5 g5 ⟨l5, o5⟩
  have row5 := (l5.2 (hn g2 .mk) (by have := l4.1; omega)).trans row4
  have L5 : g2.le g5 := L4.trans l5
  obtain ⟨ba, rfl, ba1, ba2, ba3⟩ := (OwnI.keep ow L5).blk (by intro e; rw [e] at hz; simp at hz)
  obtain ⟨bb, rfl, bb1, bb2, bb3⟩ := o5.blk (by intro e; rw [e] at tl; simp at tl)
  have hmemT : ∀ x ∈ topI zs c.top, 0 ≤ x ∧ x < zs.length := fun x hx => topI_mem hx
  have htp : topI zs c.top = topP (keyZ zs) zs.length (min c.top.toNat zs.length) := by rw [topI, if_pos ⟨htop, by omega⟩]
  have hct := inI_t htop
  have tlen : (topI zs c.top).length = min c.top.toNat zs.length := by rw [htp, topP_len]
  have kk : ∀ i : Nat, keyZ zs (i : Int) = lat zs i := fun i => by rw [keyZ, Int.toNat_natCast]
  have hfirst : lat (topI zs c.top) 0 = lat (topI zs 1) 0 := by
    rw [htp, topI, if_pos ⟨by decide, by omega⟩, topP_first (by omega), topP_first (k := min (1 : Int).toNat zs.length) (by simp; omega)]
  generalize topI zs c.top = top at *
  have hat : ∀ q, q < top.length → ∃ t : Nat, lat top q = (t : Int) ∧ t < zs.length := fun q hq => by
    have := hmemT _ (lat_mem hq)
    obtain ⟨t, ht⟩ := Int.eq_ofNat_of_zero_le this.1
    exact ⟨t, ht, by omega⟩
  have hord : ∀ q, q + 1 < top.length → ltK (keyZ zs) (lat top q) (lat top (q + 1)) := fun q hq => by
    rw [htp] at hq ⊢
    rw [topP_len] at hq
    exact topP_order hq (by omega)
  have hrest : ∀ i : Nat, i < zs.length → (i : Int) ∉ top → ltK (keyZ zs) (lat top (top.length - 1)) i := fun i hi hn => by
    rw [tlen]; rw [htp] at hn ⊢
    exact topP_rest (by omega) (by omega) ⟨by omega, by omega⟩ hn
  obtain ⟨Ft, hFt⟩ := o5.lent
  repeat (first | rw [kz_o] | rw [kz_r0] | simp -dsimp -implicitDefEqProofs only [go_sem, Nat.reduceBEq, Nat.reduceAdd, Nat.reduceLeDiff, Nat.reduceMul, Int.reduceLE, Int.reduceLT, Int.reduceBEq])
  refine pw_intro (PW.lend (.cons hFt (.cons lent_raw .nil)) (within_ok (by omega)) (fun y hy => by subst hy; exact .raw)) ?_
  rintro _ n6 hn6 rfl
  have hKm : lat top K ∈ top := lat_mem hK
  repeat (first | rw [kz_o] | rw [kz_r0] | simp -dsimp -implicitDefEqProofs only [go_sem, Nat.reduceBEq, Nat.reduceAdd, Nat.reduceLeDiff, Nat.reduceMul, Int.reduceLE, Int.reduceLT, Int.reduceBEq, hKm])
  refine lz_keep [3, 4, 5, 7, 12] (fun m e h' => ∃ (i n : Nat), h' = g5.up n ∧ hn g5 .mk ≤ n ∧ look e 13 .mk = .raw (.int .i64 (i : Nat)) ∧ m + i = zs.length) zs.length ?_ ?_
  · exact ⟨0, _, rfl, hn6, by simp -dsimp -implicitDefEqProofs only [go_sem, Nat.reduceBEq, Nat.reduceAdd, Nat.reduceLeDiff, Nat.reduceMul, Int.reduceLE, Int.reduceLT, Int.reduceBEq], by omega⟩
  · rintro m e h' hks ⟨i, n, rfl, hn7, e13, hm⟩
    simp -dsimp -implicitDefEqProofs only [go_sem, Nat.reduceBEq, Nat.reduceAdd, Nat.reduceLeDiff, Nat.reduceMul, Int.reduceLE, Int.reduceLT, Int.reduceBEq] at hks
    by_cases h1 : (i : Int) < (zs.length : Int)
    · have hi : i < zs.length := by omega
      repeat (first | rw [kz_o] | rw [kz_r0] | simp -dsimp -implicitDefEqProofs only [go_sem, Nat.reduceBEq, Nat.reduceAdd, Nat.reduceLeDiff, Nat.reduceMul, Int.reduceLE, Int.reduceLT, Int.reduceBEq, hks, e13, h1])
      refine dq_intro [(0, []), (1, []), (2, []), (3, []), (4, []), (5, []), (6, []), (7, []), (8, []), (9, []), (10, []), (11, []), (12, []), (13, []), (14, []), (15, []), (16, []), (17, []), (18, []), (19, [])] (by kernel_rfl) ?_
      repeat (first | rw [kz_o] | rw [kz_r0] | simp -dsimp -implicitDefEqProofs only [go_sem, Nat.reduceBEq, Nat.reduceAdd, Nat.reduceLeDiff, Nat.reduceMul, Int.reduceLE, Int.reduceLT, Int.reduceBEq, hks, e13, h1])
      obtain ⟨Ft2, hFt2⟩ := (OwnI.keep o5 (le_up (H2.le.refl _) hn7)).lent
      refine pw_intro (PW.lend (.cons hFt2 (.cons lent_raw .nil)) (within_ok (by omega)) (fun y hy => by subst hy; exact .raw)) ?_
      rintro _ n8 hn8 rfl
      rw [hn_up] at hn8
      by_cases hmem : (i : Int) ∈ top
      · repeat (first | rw [kz_o] | rw [kz_r0] | simp -dsimp -implicitDefEqProofs only [go_sem, Nat.reduceBEq, Nat.reduceAdd, Nat.reduceLeDiff, Nat.reduceMul, Int.reduceLE, Int.reduceLT, Int.reduceBEq, hks, e13, hmem, wrap_succ hi (by omega)])
        exact nx_keep (m - 1) (by omega) (by simp -dsimp -implicitDefEqProofs only [go_sem, Nat.reduceBEq, Nat.reduceAdd, Nat.reduceLeDiff, Nat.reduceMul, Int.reduceLE, Int.reduceLT, Int.reduceBEq, hks]) ⟨i + 1, n8, rfl, by omega, by simp -dsimp -implicitDefEqProofs only [go_sem, Nat.reduceBEq, Nat.reduceAdd, Nat.reduceLeDiff, Nat.reduceMul, Int.reduceLE, Int.reduceLT, Int.reduceBEq], by omega⟩
      · obtain ⟨t, ht1, ht2⟩ := hat (top.length - 1) (by omega)
        have hlt := hrest i hi hmem
        rw [ht1] at hlt
        have hk := hlt.key
        rw [kk, kk] at hk
        have w1 : IntKind.i64.wrap ((top.length : Int) - 1) = ((top.length - 1 : Nat) : Int) := by rw [wrap_i64] <;> omega
        have i0 : (0 : Int) ≤ (i : Int) ∧ (i : Int) < (zs.length : Int) := by omega
        have i1 : (0 : Int) ≤ ((top.length - 1 : Nat) : Int) ∧ ((top.length - 1 : Nat) : Int) < (top.length : Int) := by omega
        have i2 : (0 : Int) ≤ (t : Int) ∧ (t : Int) < (zs.length : Int) := by omega
        have a0 := get_I hi
        have a1 := get_I (l := top) (i := top.length - 1) (by omega)
        rw [ht1] at a1
        have a2 := get_I ht2
        have hno : ¬ lat zs t < lat zs i := by omega
        repeat (first | rw [kz_o] | rw [kz_r0] | simp -dsimp -implicitDefEqProofs only [go_sem, Nat.reduceBEq, Nat.reduceAdd, Nat.reduceLeDiff, Nat.reduceMul, Int.reduceLE, Int.reduceLT, Int.reduceBEq, hks, e13, hmem, wrap_succ hi (by omega), ba3, bb3, w1, i0, i1, i2, a0, a1, a2, gt_iff_lt, hno])
        exact nx_keep (m - 1) (by omega) (by simp -dsimp -implicitDefEqProofs only [go_sem, Nat.reduceBEq, Nat.reduceAdd, Nat.reduceLeDiff, Nat.reduceMul, Int.reduceLE, Int.reduceLT, Int.reduceBEq, hks]) ⟨i + 1, n8, rfl, by omega, by simp -dsimp -implicitDefEqProofs only [go_sem, Nat.reduceBEq, Nat.reduceAdd, Nat.reduceLeDiff, Nat.reduceMul, Int.reduceLE, Int.reduceLT, Int.reduceBEq], by omega⟩
    · repeat (first | rw [kz_o] | rw [kz_r0] | simp -dsimp -implicitDefEqProofs only [go_sem, Nat.reduceBEq, Nat.reduceAdd, Nat.reduceLeDiff, Nat.reduceMul, Int.reduceLE, Int.reduceLT, Int.reduceBEq, hks, e13, h1])
      refine lz_keep [3, 4, 5, 7, 12] (fun m e h' => ∃ (i n : Nat), h' = g5.up n ∧ hn g5 .mk ≤ n ∧ look e 14 .mk = .raw (.int .i64 (i : Nat)) ∧ m + i = top.length ∧ 1 ≤ i) (top.length - 1) ?_ ?_
      · exact ⟨1, n, rfl, hn7, (by simp -dsimp -implicitDefEqProofs only [go_sem, Nat.reduceBEq, Nat.reduceAdd, Nat.reduceLeDiff, Nat.reduceMul, Int.reduceLE, Int.reduceLT, Int.reduceBEq] <;> rfl), by omega, by omega⟩
      · rintro m2 e2 h' hks2 ⟨i2, n2, rfl, hn8, e14, hm2, hi1⟩
        simp -dsimp -implicitDefEqProofs only [go_sem, Nat.reduceBEq, Nat.reduceAdd, Nat.reduceLeDiff, Nat.reduceMul, Int.reduceLE, Int.reduceLT, Int.reduceBEq, hks] at hks2
        by_cases h2 : (i2 : Int) < (top.length : Int)
        · have hi2 : i2 < top.length := by omega
          obtain ⟨t, ht1, ht2⟩ := hat i2 hi2
          obtain ⟨u, hu1, hu2⟩ := hat (i2 - 1) (by omega)
          have hlt := hord (i2 - 1) (by omega)
          rw [show i2 - 1 + 1 = i2 by omega, ht1, hu1] at hlt
          have hk := hlt.key
          rw [kk, kk] at hk
          have w1 : IntKind.i64.wrap ((i2 : Int) - 1) = ((i2 - 1 : Nat) : Int) := by rw [wrap_i64] <;> omega
          have j0 : (0 : Int) ≤ (i2 : Int) ∧ (i2 : Int) < (top.length : Int) := by omega
          have j1 : (0 : Int) ≤ ((i2 - 1 : Nat) : Int) ∧ ((i2 - 1 : Nat) : Int) < (top.length : Int) := by omega
          have j2 : (0 : Int) ≤ (t : Int) ∧ (t : Int) < (zs.length : Int) := by omega
          have j3 : (0 : Int) ≤ (u : Int) ∧ (u : Int) < (zs.length : Int) := by omega
          have a0 := get_I hi2
          rw [ht1] at a0
          have a1 := get_I (l := top) (i := i2 - 1) (by omega)
          rw [hu1] at a1
          have a2 := get_I ht2
          have a3 := get_I hu2
          have hno : ¬ lat zs u < lat zs t := by omega
          by_cases heq : lat zs t = lat zs u
          · have hno2 : ¬ (t : Int) < (u : Int) := by
              unfold ltK at hlt
              rw [kk, kk] at hlt
              omega
            repeat (first | rw [kz_o] | rw [kz_r0] | simp -dsimp -implicitDefEqProofs only [go_sem, Nat.reduceBEq, Nat.reduceAdd, Nat.reduceLeDiff, Nat.reduceMul, Int.reduceLE, Int.reduceLT, Int.reduceBEq, hks2, e14, h2])
            refine dq_intro [(0, []), (1, []), (2, []), (3, []), (4, []), (5, []), (6, []), (7, []), (8, []), (9, []), (10, []), (11, []), (12, []), (13, []), (14, []), (15, []), (16, []), (17, []), (18, []), (19, []), (20, []), (21, []), (22, []), (23, []), (24, []), (25, []), (26, []), (27, []), (28, []), (29, []), (30, []), (31, []), (32, []), (33, []), (34, []), (35, []), (36, []), (37, []), (38, []), (39, []), (40, []), (41, []), (42, []), (43, []), (44, []), (45, [])] (by kernel_rfl) ?_
            repeat (first | rw [kz_o] | rw [kz_r0] | simp -dsimp -implicitDefEqProofs only [go_sem, Nat.reduceBEq, Nat.reduceAdd, Nat.reduceLeDiff, Nat.reduceMul, Int.reduceLE, Int.reduceLT, Int.reduceBEq, hks2, e14, h2, wrap_succ hi2 (by omega), ba3, bb3, w1, j0, j1, j2, j3, a0, a1, a2, a3, gt_iff_lt, hno, heq, Int.lt_irrefl, hno2])
            exact nx_keep (m2 - 1) (by omega) (by simp -dsimp -implicitDefEqProofs only [go_sem, Nat.reduceBEq, Nat.reduceAdd, Nat.reduceLeDiff, Nat.reduceMul, Int.reduceLE, Int.reduceLT, Int.reduceBEq, hks, hks2]) ⟨i2 + 1, n2, rfl, by omega, by simp -dsimp -implicitDefEqProofs only [go_sem, Nat.reduceBEq, Nat.reduceAdd, Nat.reduceLeDiff, Nat.reduceMul, Int.reduceLE, Int.reduceLT, Int.reduceBEq], by omega, by omega⟩
          · repeat (first | rw [kz_o] | rw [kz_r0] | simp -dsimp -implicitDefEqProofs only [go_sem, Nat.reduceBEq, Nat.reduceAdd, Nat.reduceLeDiff, Nat.reduceMul, Int.reduceLE, Int.reduceLT, Int.reduceBEq, hks2, e14, h2])
            refine dq_intro [(0, []), (1, []), (2, []), (3, []), (4, []), (5, []), (6, []), (7, []), (8, []), (9, []), (10, []), (11, []), (12, []), (13, []), (14, []), (15, []), (16, []), (17, []), (18, []), (19, []), (20, []), (21, []), (22, []), (23, []), (24, []), (25, []), (26, []), (27, []), (28, []), (29, []), (30, []), (31, []), (32, []), (33, []), (34, []), (35, []), (36, []), (37, []), (38, []), (39, []), (40, []), (41, []), (42, []), (43, []), (44, []), (45, [])] (by kernel_rfl) ?_
            repeat (first | rw [kz_o] | rw [kz_r0] | simp -dsimp -implicitDefEqProofs only [go_sem, Nat.reduceBEq, Nat.reduceAdd, Nat.reduceLeDiff, Nat.reduceMul, Int.reduceLE, Int.reduceLT, Int.reduceBEq, hks2, e14, h2, wrap_succ hi2 (by omega), ba3, bb3, w1, j0, j1, j2, j3, a0, a1, a2, a3, gt_iff_lt, hno, heq])
            exact nx_keep (m2 - 1) (by omega) (by simp -dsimp -implicitDefEqProofs only [go_sem, Nat.reduceBEq, Nat.reduceAdd, Nat.reduceLeDiff, Nat.reduceMul, Int.reduceLE, Int.reduceLT, Int.reduceBEq, hks, hks2]) ⟨i2 + 1, n2, rfl, by omega, by simp -dsimp -implicitDefEqProofs only [go_sem, Nat.reduceBEq, Nat.reduceAdd, Nat.reduceLeDiff, Nat.reduceMul, Int.reduceLE, Int.reduceLT, Int.reduceBEq], by omega, by omega⟩
        · have hcell := oc
          repeat (first | rw [kz_o] | rw [kz_r0] | simp -dsimp -implicitDefEqProofs only [go_sem, Nat.reduceBEq, Nat.reduceAdd, Nat.reduceLeDiff, Nat.reduceMul, Int.reduceLE, Int.reduceLT, Int.reduceBEq, hks2, e14, h2, row5, oc, hoo])
          have L6 : g2.le (((g5.up n2).push ⟨4, [.raw (.int .i64 0), .raw (.int .i64 0), .raw (.int .i64 0), .raw (.slice none 0 0)]⟩).set n2 ⟨4, [.raw (.int .i64 1), .raw (.int .i64 c.seed), .raw (.int .i64 c.new), v]⟩) := le_set (le_push (le_up L5 hn8)) (by have := L5.1; omega)
          have hc1 : cfgOk (⟨1, c.seed, c.new, c.stops⟩ : LConfig) = true := by
            unfold cfgOk at hcfg ⊢
            simp only [Bool.and_eq_true] at hcfg ⊢
            exact ⟨by decide, hcfg.2⟩
          obtain ⟨K1, hch1, _, hK0⟩ := choose_right (s := s) hc1 hz.1 (by omega) hzb2
          have hK0' := hK0 rfl
          subst hK0'
          refine wz_intro (implChoose_tree (c := ⟨1, c.seed, c.new, c.stops⟩) (outConfig (c := ⟨1, c.seed, c.new, c.stops⟩) (tv.keep L6 blv)) (tw.keep L6 blw) hfit (by omega)) ?_
          rintro _ g7 ⟨l7, rfl⟩
          have L7 : g2.le g7 := L6.trans l7
          rw [hch1]
          have n7 := l7.1
          simp only [hn_set, hn_push, hn_up] at n7
          have k7 : ∀ q, q < hn g5 .mk → hg g7 q .mk = hg g5 q .mk := fun q hq => by
            refine (l7.2 q (by simp only [hn_set, hn_push, hn_up]; omega)).trans ?_
            rw [hg_set, show (q == n2) = false by simp; omega, hk_f, hg_push, hn_up, show (q == n2) = false by simp; omega, hk_f, hg_up]
          have o57 : OwnI (hn g4 .mk) g7 (.raw (.slice (some ⟨bb, 0, none⟩) top.length top.length)) top := own_frame o5 (by omega) fun q _ hq => k7 q hq
          obtain ⟨Fa, hFa⟩ := (OwnI.keep ow L7).lent
          obtain ⟨Fb, hFb⟩ := o57.lent
          simp only [if_true, ← hfirst]
          repeat (first | rw [kz_o] | rw [kz_r0] | simp -dsimp -implicitDefEqProofs only [go_sem, Nat.reduceBEq, Nat.reduceAdd, Nat.reduceLeDiff, Nat.reduceMul, Int.reduceLE, Int.reduceLT, Int.reduceBEq])
          refine wz_intro (PI.lend (.cons hFa (.cons hFb .nil)) (implChanceOf_ok (by omega) (by omega) (by omega) (by omega))) ?_
          rintro v8 g8 ⟨l8, o8⟩
          obtain ⟨cl, c0⟩ := chance_len hmemT
          have c00 := c0 (by omega)
          obtain ⟨bc, rfl, _, _, bc3⟩ := o8.blk (by intro e; rw [e] at cl; simp at cl; omega)
          have row8 := (l8.2 (hn g2 .mk) (by have := L7.1; have := L5.1; have := l3.1; have := l4.1; have := l5.1; omega)).trans ((k7 (hn g2 .mk) (by have := l4.1; have := l5.1; omega)).trans row5)
          have bb8 := (l8.2 bb (by omega)).trans ((k7 bb bb2).trans bb3)
          have i0 : (0 : Int) ≤ 0 ∧ (0 : Int) < (top.length : Int) := by omega
          have i1 : (0 : Int) ≤ 0 ∧ (0 : Int) < ((chanceI zs top).length : Int) := by omega
          have a0 := get_I (l := top) (i := 0) (by omega)
          have a1 := get_I (l := chanceI zs top) (i := 0) (by omega)
          rw [c00] at a1
          by_cases hc : c.top = 1
          · repeat (first | rw [kz_o] | rw [kz_r0] | simp -dsimp -implicitDefEqProofs only [go_sem, Nat.reduceBEq, Nat.reduceAdd, Nat.reduceLeDiff, Nat.reduceMul, Int.reduceLE, Int.reduceLT, Int.reduceBEq, row8, bb8, bc3, i0, i1, a0, a1, cl, hc, Int.toNat_zero])
            show X.raw (Value.bool (true == decide ((if True then s else nextU s) = s))) = _
            simp
          · have hne := next_ne hs
            repeat (first | rw [kz_o] | rw [kz_r0] | simp -dsimp -implicitDefEqProofs only [go_sem, Nat.reduceBEq, Nat.reduceAdd, Nat.reduceLeDiff, Nat.reduceMul, Int.reduceLE, Int.reduceLT, Int.reduceBEq, row8, bb8, bc3, i0, i1, a0, a1, cl, hc, hne, Int.toNat_zero])
            show X.raw (Value.bool (false == decide ((if False then s else nextU s) = s))) = _
            simp [hne]
end Go.Bi
