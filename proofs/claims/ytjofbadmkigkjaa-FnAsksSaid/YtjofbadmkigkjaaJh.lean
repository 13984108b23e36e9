/- The walk of the law FnAsks, whole. -/
import Derived.Test.YtjofbadmkigkjaaJg
set_option linter.unusedSimpArgs false
set_option linter.unusedVariables false
set_option maxRecDepth 20000
namespace Go.Bi
open Go.Proofs
open Go.Ai (wrap_i64 wrap_u64 wrap_u8)
variable {W0 : World} {P : Program}
set_option maxHeartbeats 4000000
theorem sameI_ok {f f' : Adr} {zs : List Int} {g : H2} (hs : zs.length ≤ 1048576) : PW Try.prog W0 11 [.sl f 1 (ints zs), .sl f' 1 (ints zs)] g (fun y => y = .raw (.bool true)) := by
  refine PW.scalar ((?_ : WC2 _ _ _ _ _ fun v g' => g' = g ∧ v = .raw (.bool true)).mono fun v g' ⟨h1, h2⟩ => ⟨by rw [h1]; exact H2.le.refl _, ⟨_, h2⟩, h2⟩)
  refine start (P := Try.prog) [[0, 1], [0, 1], [], [0, 1], [0, 1, 5], [0, 1, 5], [0, 1, 5], [], []] (by kernel_rfl) Try.func11 rfl (by decide) (by decide +kernel) (rs := [.tmp 4]) rfl rfl (Nat.le_of_ble_eq_true rfl) ?_
  intro wf
  repeat (first | rw [kz_o] | rw [kz_r0] | simp -dsimp -implicitDefEqProofs only [go_sem, Nat.reduceBEq, Nat.reduceAdd, Nat.reduceLeDiff, Nat.reduceMul, Int.reduceLE, Int.reduceLT, Int.reduceBEq])
  refine lz_keep [0, 1] (fun m e h' => ∃ i : Nat, h' = g ∧ look e 5 .mk = .raw (.int .i64 (i : Nat)) ∧ m + i = zs.length) zs.length ?_ ?_
  · exact ⟨0, rfl, by simp -dsimp -implicitDefEqProofs only [go_sem, Nat.reduceBEq, Nat.reduceAdd, Nat.reduceLeDiff, Nat.reduceMul, Int.reduceLE, Int.reduceLT, Int.reduceBEq], by omega⟩
  · rintro m e h' hks ⟨i, rfl, e5, hm⟩
    simp -dsimp -implicitDefEqProofs only [go_sem, Nat.reduceBEq, Nat.reduceAdd, Nat.reduceLeDiff, Nat.reduceMul, Int.reduceLE, Int.reduceLT, Int.reduceBEq] at hks
    by_cases h2 : (i : Int) < (zs.length : Int)
    · have h3 : i < zs.length := by omega
      repeat (first | rw [kz_o] | rw [kz_r0] | simp -dsimp -implicitDefEqProofs only [go_sem, Nat.reduceBEq, Nat.reduceAdd, Nat.reduceLeDiff, Nat.reduceMul, Int.reduceLE, Int.reduceLT, Int.reduceBEq, hks, e5, h2])
      refine dq_intro [(0, []), (1, []), (2, []), (3, []), (4, []), (5, []), (6, []), (7, []), (8, [])] (by kernel_rfl) ?_
      repeat (first | rw [kz_o] | rw [kz_r0] | simp -dsimp -implicitDefEqProofs only [go_sem, Nat.reduceBEq, Nat.reduceAdd, Nat.reduceLeDiff, Nat.reduceMul, Int.reduceLE, Int.reduceLT, Int.reduceBEq, hks, e5, h3])
      have w1 : IntKind.i64.wrap ((i : Int) + 1) = ((i + 1 : Nat) : Int) := by rw [wrap_i64] <;> omega
      repeat (first | rw [kz_o] | rw [kz_r0] | simp -dsimp -implicitDefEqProofs only [go_sem, Nat.reduceBEq, Nat.reduceAdd, Nat.reduceLeDiff, Nat.reduceMul, Int.reduceLE, Int.reduceLT, Int.reduceBEq, hks, e5, w1])
      exact nx_keep (m - 1) (by omega) (by simp -dsimp -implicitDefEqProofs only [go_sem, Nat.reduceBEq, Nat.reduceAdd, Nat.reduceLeDiff, Nat.reduceMul, Int.reduceLE, Int.reduceLT, Int.reduceBEq, hks]) ⟨i + 1, rfl, by simp -dsimp -implicitDefEqProofs only [go_sem, Nat.reduceBEq, Nat.reduceAdd, Nat.reduceLeDiff, Nat.reduceMul, Int.reduceLE, Int.reduceLT, Int.reduceBEq, w1], by omega⟩
    · repeat (first | rw [kz_o] | rw [kz_r0] | simp -dsimp -implicitDefEqProofs only [go_sem, Nat.reduceBEq, Nat.reduceAdd, Nat.reduceLeDiff, Nat.reduceMul, Int.reduceLE, Int.reduceLT, Int.reduceBEq, hks, e5, h2])
      exact ⟨rfl, rfl⟩
theorem sameS_ok {f f' : Adr} {zs : List ByteArray} {g : H2} (hs : zs.length ≤ 1048576) : PW Try.prog W0 12 [.sl f 1 (strs zs), .sl f' 1 (strs zs)] g (fun y => y = .raw (.bool true)) := by
  refine PW.scalar ((?_ : WC2 _ _ _ _ _ fun v g' => g' = g ∧ v = .raw (.bool true)).mono fun v g' ⟨h1, h2⟩ => ⟨by rw [h1]; exact H2.le.refl _, ⟨_, h2⟩, h2⟩)
  refine start (P := Try.prog) [[0, 1], [0, 1], [], [0, 1], [0, 1, 5], [0, 1, 5], [0, 1, 5], [], []] (by kernel_rfl) Try.func12 rfl (by decide) (by decide +kernel) (rs := [.tmp 4]) rfl rfl (Nat.le_of_ble_eq_true rfl) ?_
  intro wf
  repeat (first | rw [kz_o] | rw [kz_r0] | simp -dsimp -implicitDefEqProofs only [go_sem, Nat.reduceBEq, Nat.reduceAdd, Nat.reduceLeDiff, Nat.reduceMul, Int.reduceLE, Int.reduceLT, Int.reduceBEq])
  refine lz_keep [0, 1] (fun m e h' => ∃ i : Nat, h' = g ∧ look e 5 .mk = .raw (.int .i64 (i : Nat)) ∧ m + i = zs.length) zs.length ?_ ?_
  · exact ⟨0, rfl, by simp -dsimp -implicitDefEqProofs only [go_sem, Nat.reduceBEq, Nat.reduceAdd, Nat.reduceLeDiff, Nat.reduceMul, Int.reduceLE, Int.reduceLT, Int.reduceBEq], by omega⟩
  · rintro m e h' hks ⟨i, rfl, e5, hm⟩
    simp -dsimp -implicitDefEqProofs only [go_sem, Nat.reduceBEq, Nat.reduceAdd, Nat.reduceLeDiff, Nat.reduceMul, Int.reduceLE, Int.reduceLT, Int.reduceBEq] at hks
    by_cases h2 : (i : Int) < (zs.length : Int)
    · have h3 : i < zs.length := by omega
      repeat (first | rw [kz_o] | rw [kz_r0] | simp -dsimp -implicitDefEqProofs only [go_sem, Nat.reduceBEq, Nat.reduceAdd, Nat.reduceLeDiff, Nat.reduceMul, Int.reduceLE, Int.reduceLT, Int.reduceBEq, hks, e5, h2])
      refine dq_intro [(0, []), (1, []), (2, []), (3, []), (4, []), (5, []), (6, []), (7, []), (8, [])] (by kernel_rfl) ?_
      repeat (first | rw [kz_o] | rw [kz_r0] | simp -dsimp -implicitDefEqProofs only [go_sem, Nat.reduceBEq, Nat.reduceAdd, Nat.reduceLeDiff, Nat.reduceMul, Int.reduceLE, Int.reduceLT, Int.reduceBEq, hks, e5, h3])
      have w1 : IntKind.i64.wrap ((i : Int) + 1) = ((i + 1 : Nat) : Int) := by rw [wrap_i64] <;> omega
      repeat (first | rw [kz_o] | rw [kz_r0] | simp -dsimp -implicitDefEqProofs only [go_sem, Nat.reduceBEq, Nat.reduceAdd, Nat.reduceLeDiff, Nat.reduceMul, Int.reduceLE, Int.reduceLT, Int.reduceBEq, hks, e5, w1])
      exact nx_keep (m - 1) (by omega) (by simp -dsimp -implicitDefEqProofs only [go_sem, Nat.reduceBEq, Nat.reduceAdd, Nat.reduceLeDiff, Nat.reduceMul, Int.reduceLE, Int.reduceLT, Int.reduceBEq, hks]) ⟨i + 1, rfl, by simp -dsimp -implicitDefEqProofs only [go_sem, Nat.reduceBEq, Nat.reduceAdd, Nat.reduceLeDiff, Nat.reduceMul, Int.reduceLE, Int.reduceLT, Int.reduceBEq, w1], by omega⟩
    · repeat (first | rw [kz_o] | rw [kz_r0] | simp -dsimp -implicitDefEqProofs only [go_sem, Nat.reduceBEq, Nat.reduceAdd, Nat.reduceLeDiff, Nat.reduceMul, Int.reduceLE, Int.reduceLT, Int.reduceBEq, hks, e5, h2])
      exact ⟨rfl, rfl⟩
theorem FnAsks_ok {f : Adr} {bs : List Int} {g : H2} : WC2 Try.prog W0 3 [.sl f 1 (u8s bs)] g (fun v g' => v = .raw (.bool true)) := by
  refine start (P := Try.prog) [[0], [0], [], [0], [0, 3], [0, 3, 4, 5], [0, 3, 4, 5, 7], [0, 3, 5, 7, 8, 9], [], [0], [10], [10, 11, 12], [10, 11, 12, 14], [10, 12, 14, 15]] (by kernel_rfl) Try.func3 rfl (by decide) (by decide +kernel) (rs := [.tmp 2]) rfl rfl (Nat.le_of_ble_eq_true rfl) ?_
  intro wf
  repeat (first | rw [kz_o] | rw [kz_r0] | simp -dsimp -implicitDefEqProofs only [go_sem, Nat.reduceBEq, Nat.reduceAdd, Nat.reduceLeDiff, Nat.reduceMul, Int.reduceLE, Int.reduceLT, Int.reduceBEq])
  refine wz_intro big_ok ?_
  rintro _ g1 ⟨rfl, rfl⟩
  by_cases hbig : (1048576 : Int) < bs.length
  · repeat (first | rw [kz_o] | rw [kz_r0] | simp -dsimp -implicitDefEqProofs only [go_sem, Nat.reduceBEq, Nat.reduceAdd, Nat.reduceLeDiff, Nat.reduceMul, Int.reduceLE, Int.reduceLT, Int.reduceBEq, hbig])
    rfl
  repeat (first | rw [kz_o] | rw [kz_r0] | simp -dsimp -implicitDefEqProofs only [go_sem, Nat.reduceBEq, Nat.reduceAdd, Nat.reduceLeDiff, Nat.reduceMul, Int.reduceLE, Int.reduceLT, Int.reduceBEq, hbig])
  refine wz_intro (drawAsk_ok (by omega)) ?_
  rintro x g2 ⟨⟨a, ha⟩, l2⟩
  have hfit := ha.fit
  have hsz := askS_size ha.1.1 ha.1.2.1 ha.1.2.2.1 ha.1.2.2.2
  obtain ⟨v, w, rfl, ov, ow⟩ := id ha.2
  have oc := ov.cell
  have oc2 := own_cell ow
  repeat (first | rw [kz_o] | rw [kz_r0] | simp -dsimp -implicitDefEqProofs only [go_sem, Nat.reduceBEq, Nat.reduceAdd, Nat.reduceLeDiff, Nat.reduceMul, Int.reduceLE, Int.reduceLT, Int.reduceBEq, oc, oc2, hoo])
  have ha2 := ha.keep (le_push (k := ⟨8, [.raw (.int .i64 a.op), .raw (.string a.text), .raw (.int .i64 a.pos), .raw (.int .i64 a.config.top), .raw (.int .i64 a.config.seed), .raw (.int .i64 a.config.new), v, w]⟩) (H2.le.refl g2))
  refine pw_intro (implAsk_A ha2) ?_
  rintro _ n3 hn3 rfl
  rw [hn_push] at hn3
  repeat (first | rw [kz_o] | rw [kz_r0] | simp -dsimp -implicitDefEqProofs only [go_sem, Nat.reduceBEq, Nat.reduceAdd, Nat.reduceLeDiff, Nat.reduceMul, Int.reduceLE, Int.reduceLT, Int.reduceBEq, oc, oc2, hoo])
  refine pw_intro (specAsk_A (ha2.keep (le_up (H2.le.refl _) (by rw [hn_push]; omega)))) ?_
  rintro _ n4 hn4 rfl
  rw [hn_up] at hn4
  repeat (first | rw [kz_o] | rw [kz_r0] | simp -dsimp -implicitDefEqProofs only [go_sem, Nat.reduceBEq, Nat.reduceAdd, Nat.reduceLeDiff, Nat.reduceMul, Int.reduceLE, Int.reduceLT, Int.reduceBEq, oc, oc2, hoo])
  refine wz_intro (implReadAsk_ok (by omega)) ?_
  rintro _ g5 ⟨l5, ys, bs5, rfl, o5, bl5⟩
  have N5 := l5.1
  simp only [hn_up] at N5
  have rowA5 : hg g5 (hn g2 .mk) .mk = some ⟨8, [.raw (.int .i64 a.op), .raw (.string a.text), .raw (.int .i64 a.pos), .raw (.int .i64 a.config.top), .raw (.int .i64 a.config.seed), .raw (.int .i64 a.config.new), v, w]⟩ := (l5.2 (hn g2 .mk) (by rw [hn_up]; omega)).trans (by simp -dsimp -implicitDefEqProofs only [go_sem, Nat.reduceBEq, Nat.reduceAdd, Nat.reduceLeDiff, Nat.reduceMul, Int.reduceLE, Int.reduceLT, Int.reduceBEq, hoo])
  obtain ⟨b6, s6, b7, s7, rfl, rfl, o6, o7⟩ := invAsk o5
  have c6 := OT.cell o6
  have c7 := OT.cell o7
  have k6 := bl5.split.1
  have k7 := bl5.split.2.1
  have hr := @readAsk_back a
  generalize hs0 : askS a = s0 at *
  generalize hq : readAsk s0 = q at *
  obtain ⟨a', ok'⟩ := q
  have hne : (hn g2 .mk == hn g5 .mk) = false := by simp; omega
  by_cases hok : askOkB a = true
  · obtain ⟨rfl, rfl⟩ : a' = a ∧ ok' = true := by have := hr hok; injection this with h1 h2; exact ⟨h1, h2⟩
    clear hr
    repeat (first | rw [kz_o] | rw [kz_r0] | simp -dsimp -implicitDefEqProofs only [go_sem, Nat.reduceBEq, Nat.reduceAdd, Nat.reduceLeDiff, Nat.reduceMul, Int.reduceLE, Int.reduceLT, Int.reduceBEq, hok, rowA5, c6, c7, oc, oc2, hne, hoo])
    generalize hap : List.append _ _ = oplist
    simp only [List.append_eq, List.cons_append, List.nil_append] at hap
    subst hap
    repeat (first | rw [kz_o] | rw [kz_r0] | simp -dsimp -implicitDefEqProofs only [go_sem, Nat.reduceBEq, Nat.reduceAdd, Nat.reduceLeDiff, Nat.reduceMul, Int.reduceLE, Int.reduceLT, Int.reduceBEq, hok, rowA5, c6, c7, oc, oc2, hne, hoo])
    obtain ⟨Fi, hFi⟩ := (o7.keep (le_push (H2.le.refl _)) k7).lent
    obtain ⟨Fj, hFj⟩ := (OwnI.keep ow (le_push ((le_push (k := ⟨8, [.raw (.int .i64 a'.op), .raw (.string a'.text), .raw (.int .i64 a'.pos), .raw (.int .i64 a'.config.top), .raw (.int .i64 a'.config.seed), .raw (.int .i64 a'.config.new), v, w]⟩) (H2.le.refl g2)).trans ((le_up (H2.le.refl _) (by rw [hn_push]; omega)).trans l5)))).lent
    refine pw_intro (PW.lend (.cons hFi (.cons hFj .nil)) (sameI_ok (zs := a'.picks) (by have := ha.1.2.2.2; omega)) (fun y hy => by subst hy; exact .raw)) ?_
    rintro _ n6 hn6 rfl
    rw [hn_push] at hn6
    repeat (first | rw [kz_o] | rw [kz_r0] | simp -dsimp -implicitDefEqProofs only [go_sem, Nat.reduceBEq, Nat.reduceAdd, Nat.reduceLeDiff, Nat.reduceMul, Int.reduceLE, Int.reduceLT, Int.reduceBEq, rowA5, c6, c7, oc, oc2, hne, hoo])
    obtain ⟨Fk, hFk⟩ := (o6.keep (le_up (le_push (k := ⟨8, [.raw (.int .i64 a'.op), .raw (.string a'.text), .raw (.int .i64 a'.pos), .raw (.int .i64 a'.config.top), .raw (.int .i64 a'.config.seed), .raw (.int .i64 a'.config.new), s6, s7]⟩) (H2.le.refl _)) (by rw [hn_push]; exact hn6)) k6).lent
    obtain ⟨Fl, hFl⟩ := (RowS.keep ov (le_up (le_push (k := ⟨8, [.raw (.int .i64 a'.op), .raw (.string a'.text), .raw (.int .i64 a'.pos), .raw (.int .i64 a'.config.top), .raw (.int .i64 a'.config.seed), .raw (.int .i64 a'.config.new), s6, s7]⟩) ((le_push (k := ⟨8, [.raw (.int .i64 a'.op), .raw (.string a'.text), .raw (.int .i64 a'.pos), .raw (.int .i64 a'.config.top), .raw (.int .i64 a'.config.seed), .raw (.int .i64 a'.config.new), v, w]⟩) (H2.le.refl g2)).trans ((le_up (H2.le.refl _) (by rw [hn_push]; omega)).trans l5))) (by rw [hn_push]; exact hn6))).lent
    refine pw_intro (PW.lend (.cons hFk (.cons hFl .nil)) (sameS_ok (zs := a'.config.stops) (by have := ha.1.2.1; omega)) (fun y hy => by subst hy; exact .raw)) ?_
    rintro _ n7 hn7 rfl
    repeat (first | rw [kz_o] | rw [kz_r0] | simp -dsimp -implicitDefEqProofs only [go_sem, Nat.reduceBEq, Nat.reduceAdd, Nat.reduceLeDiff, Nat.reduceMul, Int.reduceLE, Int.reduceLT, Int.reduceBEq])
    repeat (first | rw [kz_o] | rw [kz_r0] | simp -dsimp -implicitDefEqProofs only [go_sem, Nat.reduceBEq, Nat.reduceAdd, Nat.reduceLeDiff, Nat.reduceMul, Int.reduceLE, Int.reduceLT, Int.reduceBEq])
    refine wz_intro (drawText_ok (by omega)) ?_
    rintro _ gA ⟨⟨t, rfl, ht⟩, lA⟩
    repeat (first | rw [kz_o] | rw [kz_r0] | simp -dsimp -implicitDefEqProofs only [go_sem, Nat.reduceBEq, Nat.reduceAdd, Nat.reduceLeDiff, Nat.reduceMul, Int.reduceLE, Int.reduceLT, Int.reduceBEq])
    refine wz_intro (implReadAsk_ok (by omega)) ?_
    rintro _ gB ⟨lB, zs, bsB, rfl, oB, blB⟩
    have NB := lB.1
    obtain ⟨d6, u6, d7, u7, rfl, rfl, p6, p7⟩ := invAsk oB
    have e6 := OT.cell p6
    have e7 := OT.cell p7
    have rt := @readAsk_of t
    have ft := (readAsk_fit (s := t)).1
    have okt : (readAsk t).2 = true → askOkB (readAsk t).1 = true := fun h => by
      unfold readAsk at h ⊢
      split at h
      · rename_i hq
        rw [if_pos hq]
        simp only [okQ, Bool.and_eq_true] at hq
        exact hq.2.2.1
      · cases h
    repeat (first | rw [kz_o] | rw [kz_r0] | simp -dsimp -implicitDefEqProofs only [go_sem, Nat.reduceBEq, Nat.reduceAdd, Nat.reduceLeDiff, Nat.reduceMul, Int.reduceLE, Int.reduceLT, Int.reduceBEq, e6, e7, hoo])
    refine wz_intro (specReadAsk_ok (by omega)) ?_
    rintro _ gC ⟨lC, zs2, bsC, rfl, oC, blC⟩
    have NC := lC.1
    simp only [hn_push] at NC
    obtain ⟨f6, v6, f7, v7, rfl, rfl, r6, r7⟩ := invAsk oC
    have c6 := OT.cell r6
    have c7 := OT.cell r7
    have rowB : hg gC (hn gB .mk) .mk = some ⟨8, [.raw (.int .i64 (readAsk t).1.op), .raw (.string (readAsk t).1.text), .raw (.int .i64 (readAsk t).1.pos), .raw (.int .i64 (readAsk t).1.config.top), .raw (.int .i64 (readAsk t).1.config.seed), .raw (.int .i64 (readAsk t).1.config.new), u6, u7]⟩ := (lC.2 (hn gB .mk) (by rw [hn_push]; omega)).trans (by simp -dsimp -implicitDefEqProofs only [go_sem, Nat.reduceBEq, Nat.reduceAdd, Nat.reduceLeDiff, Nat.reduceMul, Int.reduceLE, Int.reduceLT, Int.reduceBEq, hoo])
    have neB : (hn gB .mk == hn gC .mk) = false := by simp; omega
    repeat (first | rw [kz_o] | rw [kz_r0] | simp -dsimp -implicitDefEqProofs only [go_sem, Nat.reduceBEq, Nat.reduceAdd, Nat.reduceLeDiff, Nat.reduceMul, Int.reduceLE, Int.reduceLT, Int.reduceBEq, e6, e7, c6, c7, rowB, neB, hoo])
    refine wz_intro (implAskText_tree (outAsk (c := (readAsk t).1) (p6.keep (le_push ((le_push (H2.le.refl _)).trans lC)) blB.split.1) (p7.keep (le_push ((le_push (H2.le.refl _)).trans lC)) blB.split.2.1)) ft) ?_
    rintro _ gD ⟨lD, rfl⟩
    generalize hb : (readAsk t).2 = bt at *
    cases bt
    · repeat (first | rw [kz_o] | rw [kz_r0] | simp -dsimp -implicitDefEqProofs only [go_sem, Nat.reduceBEq, Nat.reduceAdd, Nat.reduceLeDiff, Nat.reduceMul, Int.reduceLE, Int.reduceLT, Int.reduceBEq])
      rfl
    · rw [rt rfl]
      repeat (first | rw [kz_o] | rw [kz_r0] | simp -dsimp -implicitDefEqProofs only [go_sem, Nat.reduceBEq, Nat.reduceAdd, Nat.reduceLeDiff, Nat.reduceMul, Int.reduceLE, Int.reduceLT, Int.reduceBEq])
      rfl
  · have hok' : askOkB a = false := by simpa using hok
    repeat (first | rw [kz_o] | rw [kz_r0] | simp -dsimp -implicitDefEqProofs only [go_sem, Nat.reduceBEq, Nat.reduceAdd, Nat.reduceLeDiff, Nat.reduceMul, Int.reduceLE, Int.reduceLT, Int.reduceBEq, hok', rowA5, c6, c7, oc, oc2, hne, hoo])
    generalize hap : List.append _ _ = oplist
    simp only [List.append_eq, List.cons_append, List.nil_append] at hap
    subst hap
    repeat (first | rw [kz_o] | rw [kz_r0] | simp -dsimp -implicitDefEqProofs only [go_sem, Nat.reduceBEq, Nat.reduceAdd, Nat.reduceLeDiff, Nat.reduceMul, Int.reduceLE, Int.reduceLT, Int.reduceBEq, hok', rowA5, c6, c7, oc, oc2, hne, hoo])
    repeat (first | rw [kz_o] | rw [kz_r0] | simp -dsimp -implicitDefEqProofs only [go_sem, Nat.reduceBEq, Nat.reduceAdd, Nat.reduceLeDiff, Nat.reduceMul, Int.reduceLE, Int.reduceLT, Int.reduceBEq])
    refine wz_intro (drawText_ok (by omega)) ?_
    rintro _ gA ⟨⟨t, rfl, ht⟩, lA⟩
    repeat (first | rw [kz_o] | rw [kz_r0] | simp -dsimp -implicitDefEqProofs only [go_sem, Nat.reduceBEq, Nat.reduceAdd, Nat.reduceLeDiff, Nat.reduceMul, Int.reduceLE, Int.reduceLT, Int.reduceBEq])
    refine wz_intro (implReadAsk_ok (by omega)) ?_
    rintro _ gB ⟨lB, zs, bsB, rfl, oB, blB⟩
    have NB := lB.1
    obtain ⟨d6, u6, d7, u7, rfl, rfl, p6, p7⟩ := invAsk oB
    have e6 := OT.cell p6
    have e7 := OT.cell p7
    have rt := @readAsk_of t
    have ft := (readAsk_fit (s := t)).1
    have okt : (readAsk t).2 = true → askOkB (readAsk t).1 = true := fun h => by
      unfold readAsk at h ⊢
      split at h
      · rename_i hq
        rw [if_pos hq]
        simp only [okQ, Bool.and_eq_true] at hq
        exact hq.2.2.1
      · cases h
    repeat (first | rw [kz_o] | rw [kz_r0] | simp -dsimp -implicitDefEqProofs only [go_sem, Nat.reduceBEq, Nat.reduceAdd, Nat.reduceLeDiff, Nat.reduceMul, Int.reduceLE, Int.reduceLT, Int.reduceBEq, e6, e7, hoo])
    refine wz_intro (specReadAsk_ok (by omega)) ?_
    rintro _ gC ⟨lC, zs2, bsC, rfl, oC, blC⟩
    have NC := lC.1
    simp only [hn_push] at NC
    obtain ⟨f6, v6, f7, v7, rfl, rfl, r6, r7⟩ := invAsk oC
    have c6 := OT.cell r6
    have c7 := OT.cell r7
    have rowB : hg gC (hn gB .mk) .mk = some ⟨8, [.raw (.int .i64 (readAsk t).1.op), .raw (.string (readAsk t).1.text), .raw (.int .i64 (readAsk t).1.pos), .raw (.int .i64 (readAsk t).1.config.top), .raw (.int .i64 (readAsk t).1.config.seed), .raw (.int .i64 (readAsk t).1.config.new), u6, u7]⟩ := (lC.2 (hn gB .mk) (by rw [hn_push]; omega)).trans (by simp -dsimp -implicitDefEqProofs only [go_sem, Nat.reduceBEq, Nat.reduceAdd, Nat.reduceLeDiff, Nat.reduceMul, Int.reduceLE, Int.reduceLT, Int.reduceBEq, hoo])
    have neB : (hn gB .mk == hn gC .mk) = false := by simp; omega
    repeat (first | rw [kz_o] | rw [kz_r0] | simp -dsimp -implicitDefEqProofs only [go_sem, Nat.reduceBEq, Nat.reduceAdd, Nat.reduceLeDiff, Nat.reduceMul, Int.reduceLE, Int.reduceLT, Int.reduceBEq, e6, e7, c6, c7, rowB, neB, hoo])
    refine wz_intro (implAskText_tree (outAsk (c := (readAsk t).1) (p6.keep (le_push ((le_push (H2.le.refl _)).trans lC)) blB.split.1) (p7.keep (le_push ((le_push (H2.le.refl _)).trans lC)) blB.split.2.1)) ft) ?_
    rintro _ gD ⟨lD, rfl⟩
    generalize hb : (readAsk t).2 = bt at *
    cases bt
    · repeat (first | rw [kz_o] | rw [kz_r0] | simp -dsimp -implicitDefEqProofs only [go_sem, Nat.reduceBEq, Nat.reduceAdd, Nat.reduceLeDiff, Nat.reduceMul, Int.reduceLE, Int.reduceLT, Int.reduceBEq])
      rfl
    · rw [rt rfl]
      repeat (first | rw [kz_o] | rw [kz_r0] | simp -dsimp -implicitDefEqProofs only [go_sem, Nat.reduceBEq, Nat.reduceAdd, Nat.reduceLeDiff, Nat.reduceMul, Int.reduceLE, Int.reduceLT, Int.reduceBEq])
      rfl
end Go.Bi
