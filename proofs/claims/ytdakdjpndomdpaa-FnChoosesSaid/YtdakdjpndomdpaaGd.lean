/- The walk of the reference's Choose. -/
import Derived.Test.YtdakdjpndomdpaaGc
set_option linter.unusedSimpArgs false
set_option linter.unusedVariables false
set_option maxRecDepth 20000
namespace Go.Bi
open Go.Proofs
open Go.Ai (wrap_i64 wrap_u64 wrap_u8 Heap chanceI)
variable {W0 : World} {P : Program}
set_option maxHeartbeats 4000000
theorem specChoose_ok {F : Nat → Adr} {f : Adr} {c : LConfig} {s : Int} {zs : List Int} {g : H2} (hn0 : c.stops.length ≤ 9223372036854775807) (hs : zs.length ≤ 1048576) :
    PW Try.prog W0 52 [.st (xConfig F c), .raw (.int .u64 s), .sl f 1 (ints zs)] g (fun r => r = choX (chooseI c s zs)) := by
  refine PW.plain (WC2.asm fun h0 s0 ok0 => ?_)
  have hall : AllB (fun _ => True) (.sl f 1 (ints zs)) := (ok0 (.sl f 1 (ints zs)) (by simp)).all
  refine start (P := Try.prog) [[0, 1, 2], [1, 2, 3], [], [1, 2, 3], [1, 2, 3, 9], [1, 9], [1, 2, 9], [2, 9, 10, 11], [9, 10, 11, 12], [9, 10, 11, 12, 13], [9, 10, 11, 12, 13, 14], [9, 10, 11, 12, 13, 14], [9, 10, 11, 12, 13, 14], [9, 10, 11, 12, 13], [9, 10, 12, 15], [9, 10, 12, 15, 16], [9, 10, 12, 15, 16], [9, 10, 12, 15, 16], [9, 10, 16], [9, 10, 12, 15, 16], [9, 10]] (by kernel_rfl) Try.func52 rfl (by decide) (by decide +kernel) (rs := [.tmp 6, .tmp 7, .tmp 8]) rfl rfl (Nat.le_of_ble_eq_true rfl) ?_
  intro wf
  repeat (first | rw [kz_o] | rw [kz_r0] | simp -dsimp -implicitDefEqProofs only [go_sem, Nat.reduceBEq, Nat.reduceAdd, Nat.reduceLeDiff, Nat.reduceMul, Int.reduceLE, Int.reduceLT, Int.reduceBEq])
  refine pw_intro (specConfigOk_ok hn0) ?_
  rintro _ n1 hn1 rfl
  have wrong : ¬ (cfgOk c = true ∧ inI zs.length 1 400 = true ∧ allI zs (-1000000) 1000000 = true) → choX (chooseI c s zs) = .tp [.raw (.int .i64 0), .raw (.int .u64 0), .raw (.bool false)] := fun h => by rw [chooseI, if_neg h]; rfl
  cases hc : cfgOk c
  · repeat (first | rw [kz_o] | rw [kz_r0] | simp -dsimp -implicitDefEqProofs only [go_sem, Nat.reduceBEq, Nat.reduceAdd, Nat.reduceLeDiff, Nat.reduceMul, Int.reduceLE, Int.reduceLT, Int.reduceBEq])
    exact ⟨by repeat (first | exact H2.le.refl _ | apply le_push | refine le_up ?_ (by assumption)), .inr ⟨[_, _, _], rfl⟩, (wrong (by rw [hc]; simp)).symm⟩
  repeat (first | rw [kz_o] | rw [kz_r0] | simp -dsimp -implicitDefEqProofs only [go_sem, Nat.reduceBEq, Nat.reduceAdd, Nat.reduceLeDiff, Nat.reduceMul, Int.reduceLE, Int.reduceLT, Int.reduceBEq])
  refine wz_intro l01In_ok ?_
  rintro _ h1 ⟨rfl, rfl⟩
  cases hl : inI zs.length 1 400
  · repeat (first | rw [kz_o] | rw [kz_r0] | simp -dsimp -implicitDefEqProofs only [go_sem, Nat.reduceBEq, Nat.reduceAdd, Nat.reduceLeDiff, Nat.reduceMul, Int.reduceLE, Int.reduceLT, Int.reduceBEq])
    exact ⟨by repeat (first | exact H2.le.refl _ | apply le_push | refine le_up ?_ (by assumption)), .inr ⟨[_, _, _], rfl⟩, (wrong (by rw [hl]; simp)).symm⟩
  repeat (first | rw [kz_o] | rw [kz_r0] | simp -dsimp -implicitDefEqProofs only [go_sem, Nat.reduceBEq, Nat.reduceAdd, Nat.reduceLeDiff, Nat.reduceMul, Int.reduceLE, Int.reduceLT, Int.reduceBEq])
  refine pw_intro (l05All_ok (by omega)) ?_
  rintro _ n2 hn2 rfl
  cases ha : allI zs (-1000000) 1000000
  · repeat (first | rw [kz_o] | rw [kz_r0] | simp -dsimp -implicitDefEqProofs only [go_sem, Nat.reduceBEq, Nat.reduceAdd, Nat.reduceLeDiff, Nat.reduceMul, Int.reduceLE, Int.reduceLT, Int.reduceBEq])
    exact ⟨by repeat (first | exact H2.le.refl _ | apply le_push | refine le_up ?_ (by assumption)), .inr ⟨[_, _, _], rfl⟩, (wrong (by rw [ha]; simp)).symm⟩
  repeat (first | rw [kz_o] | rw [kz_r0] | simp -dsimp -implicitDefEqProofs only [go_sem, Nat.reduceBEq, Nat.reduceAdd, Nat.reduceLeDiff, Nat.reduceMul, Int.reduceLE, Int.reduceLT, Int.reduceBEq])
  refine wz_intro (specTopOf_ok hs) ?_
  rintro v3 g3 ⟨l3, o3⟩
  have hcfg : hg g3 (hn g .mk) .mk = some ⟨4, xConfig F c⟩ := (l3.2 (hn g .mk) (by rw [hn_push] at hn1; simp only [hn_up] at *; omega)).trans (by simp -dsimp -implicitDefEqProofs only [go_sem, Nat.reduceBEq, Nat.reduceAdd, Nat.reduceLeDiff, Nat.reduceMul, Int.reduceLE, Int.reduceLT, Int.reduceBEq])
  have L3 : g.le g3 := H2.le.trans (by repeat (first | exact H2.le.refl _ | apply le_push | refine le_up ?_ (by assumption))) l3
  have htop : inI c.top 1 8 = true := by unfold cfgOk at hc; simp only [Bool.and_eq_true] at hc; exact hc.1
  have hzs := inI_t hl
  have tl := topI_len1 (zs := zs) htop (by omega) (by omega)
  obtain ⟨b, rfl, hb1, hb2, hb3⟩ := o3.blk (by intro e; rw [e] at tl; simp at tl)
  have right : chooseI c s zs = (if c.top = 1 then (lat (topI zs c.top) 0, s, true) else (lat (topI zs c.top) (pickI (chanceI zs (topI zs c.top)) (drawnI s zs (topI zs c.top))), nextU s, true)) := by rw [chooseI, if_pos ⟨hc, hl, ha⟩]
  generalize ht : topI zs c.top = top at *
  repeat (first | rw [kz_o] | rw [kz_r0] | simp -dsimp -implicitDefEqProofs only [go_sem, Nat.reduceBEq, Nat.reduceAdd, Nat.reduceLeDiff, Nat.reduceMul, Int.reduceLE, Int.reduceLT, Int.reduceBEq, hcfg])
  refine gz_dec (fun h4 => ?_) (fun h4 => ?_)
  · have i0 : (0 : Int) ≤ 0 ∧ (0 : Int) < (top.length : Int) := by omega
    have e0 := get_I (l := top) (i := 0) (by omega)
    repeat (first | rw [kz_o] | rw [kz_r0] | simp -dsimp -implicitDefEqProofs only [go_sem, Nat.reduceBEq, Nat.reduceAdd, Nat.reduceLeDiff, Nat.reduceMul, Int.reduceLE, Int.reduceLT, Int.reduceBEq, hcfg, i0, hb3, e0, Int.toNat_zero])
    rw [right, if_pos h4]
    exact ⟨L3, .inr ⟨[_, _, _], rfl⟩, rfl⟩
  · rw [if_neg h4] at right
    repeat (first | rw [kz_o] | rw [kz_r0] | simp -dsimp -implicitDefEqProofs only [go_sem, Nat.reduceBEq, Nat.reduceAdd, Nat.reduceLeDiff, Nat.reduceMul, Int.reduceLE, Int.reduceLT, Int.reduceBEq, hcfg])
    refine wz_intro specNextState_ok ?_
    rintro _ g5 ⟨rfl, rfl⟩
    repeat (first | rw [kz_o] | rw [kz_r0] | simp -dsimp -implicitDefEqProofs only [go_sem, Nat.reduceBEq, Nat.reduceAdd, Nat.reduceLeDiff, Nat.reduceMul, Int.reduceLE, Int.reduceLT, Int.reduceBEq])
    obtain ⟨F2, hF2⟩ := o3.lent
    refine wz_intro (PI.lend (.cons (Fz.sl hall) (.cons hF2 .nil)) (specChanceOf_ok (by omega) (by omega) hs (by omega))) ?_
    rintro v4 g4 ⟨l4, o4⟩
    have hmem : ∀ x ∈ top, 0 ≤ x ∧ x < zs.length := fun x hx => topI_mem (k := c.top) (by rw [ht]; exact hx)
    obtain ⟨cl, c0⟩ := chance_len hmem
    have sr := sum_rng hmem tl.1 tl.2
    have dr := drawn_rng (s := s) sr
    have cr : ∀ x ∈ chanceI zs top, 0 ≤ x ∧ x ≤ 256 := fun x hx => chance_rng hx
    have L4 : g.le g4 := L3.trans l4
    have hb4 := (l4.2 b hb2).trans hb3
    obtain ⟨b', rfl, hb5, hb6, hb7⟩ := o4.blk (by intro e; rw [e] at cl; simp at cl; omega)
    generalize hch : chanceI zs top = chs at *
    repeat (first | rw [kz_o] | rw [kz_r0] | simp -dsimp -implicitDefEqProofs only [go_sem, Nat.reduceBEq, Nat.reduceAdd, Nat.reduceLeDiff, Nat.reduceMul, Int.reduceLE, Int.reduceLT, Int.reduceBEq])
    refine lz_keep [9, 10, 11, 12] (fun m e h' => ∃ (i : Nat) (t : Int), h' = g4 ∧ look e 14 .mk = .raw (.int .i64 (i : Nat)) ∧ look e 13 .mk = .raw (.int .i64 t) ∧ m + i = chs.length ∧ t + sumZ (chs.drop i) = sumZ chs ∧ 0 ≤ t ∧ t ≤ 256 * i) chs.length ?_ ?_
    · exact ⟨0, 0, rfl, by simp -dsimp -implicitDefEqProofs only [go_sem, Nat.reduceBEq, Nat.reduceAdd, Nat.reduceLeDiff, Nat.reduceMul, Int.reduceLE, Int.reduceLT, Int.reduceBEq], by simp -dsimp -implicitDefEqProofs only [go_sem, Nat.reduceBEq, Nat.reduceAdd, Nat.reduceLeDiff, Nat.reduceMul, Int.reduceLE, Int.reduceLT, Int.reduceBEq], by omega, by simp, by omega, by omega⟩
    · rintro m e h' hks ⟨i, t, hge, e14, e13, hm, hsum, ht1, ht2⟩
      subst hge
      simp -dsimp -implicitDefEqProofs only [go_sem, Nat.reduceBEq, Nat.reduceAdd, Nat.reduceLeDiff, Nat.reduceMul, Int.reduceLE, Int.reduceLT, Int.reduceBEq] at hks
      repeat (first | rw [kz_o] | rw [kz_r0] | simp -dsimp -implicitDefEqProofs only [go_sem, Nat.reduceBEq, Nat.reduceAdd, Nat.reduceLeDiff, Nat.reduceMul, Int.reduceLE, Int.reduceLT, Int.reduceBEq, hks, e14, e13])
      refine gz_dec (fun h5 => ?_) (fun h5 => ?_)
      · have h6 : i < chs.length := by omega
        have i0 : (0 : Int) ≤ (i : Int) ∧ (i : Int) < (chs.length : Int) := by omega
        have e0 := get_I h6
        have cx := cr _ (lat_mem h6)
        have w1 : IntKind.i64.wrap (t + lat chs i) = t + lat chs i := by rw [wrap_i64] <;> omega
        repeat (first | rw [kz_o] | rw [kz_r0] | simp -dsimp -implicitDefEqProofs only [go_sem, Nat.reduceBEq, Nat.reduceAdd, Nat.reduceLeDiff, Nat.reduceMul, Int.reduceLE, Int.reduceLT, Int.reduceBEq, hks, e14, e13, i0, hb7, e0, w1, wrap_succ h6 (by omega)])
        refine nx_keep (m - 1) (by omega) (by simp -dsimp -implicitDefEqProofs only [go_sem, Nat.reduceBEq, Nat.reduceAdd, Nat.reduceLeDiff, Nat.reduceMul, Int.reduceLE, Int.reduceLT, Int.reduceBEq, hks]) ⟨i + 1, t + lat chs i, rfl, by simp -dsimp -implicitDefEqProofs only [go_sem, Nat.reduceBEq, Nat.reduceAdd, Nat.reduceLeDiff, Nat.reduceMul, Int.reduceLE, Int.reduceLT, Int.reduceBEq], by simp -dsimp -implicitDefEqProofs only [go_sem, Nat.reduceBEq, Nat.reduceAdd, Nat.reduceLeDiff, Nat.reduceMul, Int.reduceLE, Int.reduceLT, Int.reduceBEq], by omega, ?_, by omega, by omega⟩
        rw [sumZ_drop h6] at hsum; omega
      · repeat (first | rw [kz_o] | rw [kz_r0] | simp -dsimp -implicitDefEqProofs only [go_sem, Nat.reduceBEq, Nat.reduceAdd, Nat.reduceLeDiff, Nat.reduceMul, Int.reduceLE, Int.reduceLT, Int.reduceBEq, hks, e14, e13])
        have hi : i = chs.length := by omega
        have ht3 : t = sumZ chs := by
          rw [hi, List.drop_length] at hsum
          simpa [sumZ] using hsum
        subst ht3
        have w2 : IntKind.u64.wrap (sumZ chs) = sumZ chs := by rw [wrap_u64]; omega
        have w3 : (sumZ chs == 0) = false := by simp; omega
        have w4 : IntKind.i64.wrap ((mixU (nextU s)).tmod (sumZ chs)) = (mixU (nextU s)).tmod (sumZ chs) := by rw [wrap_i64] <;> omega
        rw [← dr.1] at w4
        repeat (first | rw [kz_o] | rw [kz_r0] | simp -dsimp -implicitDefEqProofs only [go_sem, Nat.reduceBEq, Nat.reduceAdd, Nat.reduceLeDiff, Nat.reduceMul, Int.reduceLE, Int.reduceLT, Int.reduceBEq, hks, e14, e13, w2, w3, w4, ← dr.1])
        obtain ⟨_, d0, d1⟩ := dr
        generalize drawnI s zs top = d at *
        refine lz_keep [9, 10, 12] (fun m e h2 => ∃ (k : Nat) (t : Int), h2 = h' ∧ look e 16 .mk = .raw (.int .i64 (k : Nat)) ∧ look e 15 .mk = .raw (.int .i64 t) ∧ m + k = chs.length ∧ pickI chs d = k + pickI (chs.drop k) t ∧ 0 ≤ t ∧ t < sumZ (chs.drop k)) chs.length ?_ ?_
        · exact ⟨0, d, rfl, by simp -dsimp -implicitDefEqProofs only [go_sem, Nat.reduceBEq, Nat.reduceAdd, Nat.reduceLeDiff, Nat.reduceMul, Int.reduceLE, Int.reduceLT, Int.reduceBEq], by simp -dsimp -implicitDefEqProofs only [go_sem, Nat.reduceBEq, Nat.reduceAdd, Nat.reduceLeDiff, Nat.reduceMul, Int.reduceLE, Int.reduceLT, Int.reduceBEq], by omega, by simp, d0, by simpa using d1⟩
        · rintro m2 e2 h2 hks2 ⟨k, t, rfl, e16, e15, hm2, hp, ht1, ht2⟩
          simp -dsimp -implicitDefEqProofs only [go_sem, Nat.reduceBEq, Nat.reduceAdd, Nat.reduceLeDiff, Nat.reduceMul, Int.reduceLE, Int.reduceLT, Int.reduceBEq, hks] at hks2
          have hk : k < chs.length := by
            refine Decidable.byContradiction fun hk => ?_
            rw [List.drop_eq_nil_of_le (by omega)] at ht2
            simp only [sumZ] at ht2; omega
          rw [sumZ_drop hk] at ht2
          rw [drop_lat hk, pickI] at hp
          have i0 : (0 : Int) ≤ (k : Int) ∧ (k : Int) < (chs.length : Int) := by omega
          have i1 : (0 : Int) ≤ (k : Int) ∧ (k : Int) < (top.length : Int) := by omega
          have i2 := i1.2
          have e0 := get_I hk
          have cx := cr _ (lat_mem hk)
          have sm := sumZ_rng (l := chs.drop (k + 1)) fun x hx => cr x (List.mem_of_mem_drop hx)
          rw [List.length_drop] at sm
          repeat (first | rw [kz_o] | rw [kz_r0] | simp -dsimp -implicitDefEqProofs only [go_sem, Nat.reduceBEq, Nat.reduceAdd, Nat.reduceLeDiff, Nat.reduceMul, Int.reduceLE, Int.reduceLT, Int.reduceBEq, hks2, e16, e15, i2, i0, hb7, e0])
          refine gz_dec (fun h6 => ?_) (fun h6 => ?_)
          · rw [if_pos (by omega)] at hp
            have e1 := get_I (l := top) (i := k) (by omega)
            repeat (first | rw [kz_o] | rw [kz_r0] | simp -dsimp -implicitDefEqProofs only [go_sem, Nat.reduceBEq, Nat.reduceAdd, Nat.reduceLeDiff, Nat.reduceMul, Int.reduceLE, Int.reduceLT, Int.reduceBEq, hks2, e16, e15, i1, hb4, e1])
            rw [right, hp]
            exact ⟨L4, .inr ⟨[_, _, _], rfl⟩, rfl⟩
          · rw [if_neg (by omega)] at hp
            have w5 : IntKind.i64.wrap (t - lat chs k) = t - lat chs k := by rw [wrap_i64] <;> omega
            repeat (first | rw [kz_o] | rw [kz_r0] | simp -dsimp -implicitDefEqProofs only [go_sem, Nat.reduceBEq, Nat.reduceAdd, Nat.reduceLeDiff, Nat.reduceMul, Int.reduceLE, Int.reduceLT, Int.reduceBEq, hks2, e16, e15, i0, hb7, e0, w5, wrap_succ hk (by omega)])
            exact nx_keep (m2 - 1) (by omega) (by simp -dsimp -implicitDefEqProofs only [go_sem, Nat.reduceBEq, Nat.reduceAdd, Nat.reduceLeDiff, Nat.reduceMul, Int.reduceLE, Int.reduceLT, Int.reduceBEq, hks, hks2]) ⟨k + 1, t - lat chs k, rfl, by simp -dsimp -implicitDefEqProofs only [go_sem, Nat.reduceBEq, Nat.reduceAdd, Nat.reduceLeDiff, Nat.reduceMul, Int.reduceLE, Int.reduceLT, Int.reduceBEq], by simp -dsimp -implicitDefEqProofs only [go_sem, Nat.reduceBEq, Nat.reduceAdd, Nat.reduceLeDiff, Nat.reduceMul, Int.reduceLE, Int.reduceLT, Int.reduceBEq], by omega, by omega, by omega, by omega⟩
end Go.Bi
