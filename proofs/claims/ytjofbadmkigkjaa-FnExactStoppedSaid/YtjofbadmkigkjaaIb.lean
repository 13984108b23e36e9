/- The program's MergesOk. -/
import Derived.Test.YtjofbadmkigkjaaIa
set_option linter.unusedSimpArgs false
set_option linter.unusedVariables false
set_option maxRecDepth 20000
namespace Go.Bi
open Go.Proofs
open Go.Ai (wrap_i64 wrap_u64 wrap_u8)
variable {W0 : World} {P : Program}
set_option maxHeartbeats 4000000
theorem append_iM {D : Nat → Option (List Nat)} {g : H2} {K : KT} {t u U y N : Nat} {xs : List Int} {x : X} {f : Adr} {s : Int} (he : Go.Ai.elt? P t = some (U, 1, y)) (hz : Go.Ai.zr? P U = some [.int .i64 0]) (hu : Go.Ai.cls? P u = some .sl)
    (hx : OwnI N g x xs) (hN0 : N ≤ hn g .mk) (hn0 : (xs.length + 1) * (y + 1) ≤ Go.Ai.most)
    (hk : ∀ v' g', OwnI N g' v' (xs ++ [s]) → hn g .mk ≤ hn g' .mk → (∀ g0 : H2, hn g0 .mk ≤ N → g0.le g → g0.le g') → (∀ c, c < hn g .mk → blockOf x ≠ some c → hg g' c .mk = hg g c .mk) → (∀ c, blockOf v' = some c → hn g .mk ≤ c) → kz K v' g' .mk) :
    az (biz P g .append [t, u] [x, .sl f 1 [[.v (.int .i64 s)]]] .mk) K .mk := by
  have hlen0 := hx.1
  obtain ⟨_, hcase⟩ := hx
  have key : ∀ a, x = .raw (.slice a xs.length xs.length) → biz P g .append [t, u] [x, .sl f 1 [[.v (.int .i64 s)]]] .mk = (match a with
        | none => some (.raw (.slice (some ⟨g.n, 0, none⟩) 1 1), g.push ⟨0 + 1, [cI s]⟩)
        | some a => match g.get a.block with
          | some k => if k.z = 0 + 1 ∧ a.off = 0 then (rdL k.cs 0 (xs.length * (0 + 1))).map fun olds => (.raw (.slice (some ⟨g.n, 0, none⟩) (xs.length + 1) (xs.length + 1)), (g.kill a.block).push ⟨0 + 1, olds ++ [cI s]⟩) else none
          | none => none) := by
    intro a ha
    subst ha
    have hs : srcX g (0 + 1) (.sl f 1 [[.v (.int .i64 s)]]) = some (1, [cI s]) := rfl
    simp only [biz, builtinX, hu, appendX, he, hs, hz]
    rw [if_pos ⟨rfl, hn0, rfl⟩, if_neg (by decide)]
    cases a <;> rfl
  rcases hcase with ⟨rfl, h0⟩ | ⟨b, rfl, hNb, hbn, hb⟩
  · have hxs : xs = [] := List.eq_nil_of_length_eq_zero h0
    subst hxs
    rw [key none rfl]
    refine hk _ _ ⟨rfl, .inr ⟨g.n, rfl, hN0, ?_, ?_⟩⟩ ?_ ?_ ?_ ?_
    · rw [hn_push]; exact Nat.lt_succ_self _
    · rw [hg_push, show (g.n == hn g .mk) = true by simp [hn]]; rfl
    · rw [hn_push]; omega
    · intro g0 _ l0; exact le_push l0
    · intro b' hb' _
      rw [hg_push, show (b' == hn g .mk) = false by simp; omega]; rfl
    · intro c hc; simp only [blockOf, Option.some.injEq] at hc; unfold hn; omega
  · have hb' : g.get b = some ⟨1, xs.map cI⟩ := hb
    rw [key _ rfl]
    simp only [hb']
    rw [if_pos ⟨trivial, trivial⟩, rd_all (by simp)]
    have hne : (b == hn g .mk) = false := by simp; omega
    refine hk _ _ ⟨by simp, .inr ⟨g.n, by simp, ?_, ?_, ?_⟩⟩ ?_ ?_ ?_ ?_
    · unfold hn at hbn; omega
    · rw [hn_push, hn_kill]; exact Nat.lt_succ_self _
    · rw [hg_push, hn_kill, show (g.n == hn g .mk) = true by simp [hn]]; simp [hk_t]
    · rw [hn_push, hn_kill]; omega
    · intro g0 hN l0; exact le_push (le_kill l0 (by omega))
    · intro b' hb2 hne'
      have hbb : (b' == b) = false := by
        have : ¬ b' = b := fun e => hne' (by rw [e]; rfl)
        simp [this]
      rw [hg_push, hn_kill, show (b' == hn g .mk) = false by simp; omega, hk_f, hg_kill, hbb]; rfl
    · intro c hc; simp only [blockOf, Option.some.injEq] at hc; unfold hn; omega
theorem ownI_cell {N : Nat} {g : H2} {v : X} {zs : List Int} (o : OwnI N g v zs) : cellsX v = some [v] ∧ okX v = true ∧ isTpX v = false := by
  obtain ⟨_, h⟩ := o
  rcases h with ⟨rfl, _⟩ | ⟨b, rfl, _⟩ <;> exact ⟨rfl, rfl, rfl⟩
theorem ownI_frame {N : Nat} {g g' : H2} {v : X} {zs : List Int} (o : OwnI N g v zs) (hn' : hn g .mk ≤ hn g' .mk) (hk : ∀ c, blockOf v = some c → c < hn g .mk → hg g' c .mk = hg g c .mk) : OwnI N g' v zs := by
  obtain ⟨h0, h⟩ := o
  refine ⟨h0, h.imp_right ?_⟩
  rintro ⟨b, e1, e2, e3, e4⟩
  exact ⟨b, e1, e2, Nat.lt_of_lt_of_le e3 hn', by rw [hk b (by rw [e1]; rfl) e3]; exact e4⟩
theorem sizesOf_ok {f : Adr} {l : List LMerge} {g : H2} (hl : l.length ≤ 16) : WC2 Try.prog W0 141 [.sl f 2 (rMergeS l)] g (fun x g' => g.le g' ∧ ∃ v, x = .tp [v, .raw (.bool ((List.range l.length).all (stepOk l)))] ∧ isTpX v = false) := by
  have bad : ∀ i, i < l.length → stepOk l i = false → (List.range l.length).all (stepOk l) = false := fun i hi h => by
    rw [List.all_eq_false]; exact ⟨i, List.mem_range.2 hi, by rw [h]; simp⟩
  refine start (P := Try.prog) [[0], [0], [0, 4], [0, 4, 5], [4, 5, 11, 12, 13], [4, 5, 11, 12, 13], [4, 5, 6, 7, 11, 12, 13], [], [4, 5, 7, 11, 12, 13], [4, 5, 8, 11, 12, 13], [], [4, 5, 8, 11, 12, 13], [4, 5, 11, 12, 13], [4]] (by kernel_rfl) Try.func141 rfl (by decide) (by decide +kernel) (rs := [.tmp 2, .tmp 3]) rfl rfl (Nat.le_of_ble_eq_true rfl) ?_
  intro wf
  repeat (first | rw [kz_o] | rw [kz_r0] | simp -dsimp -implicitDefEqProofs only [go_sem, Nat.reduceBEq, Nat.reduceAdd, Nat.reduceLeDiff, Nat.reduceMul, Int.reduceLE, Int.reduceLT, Int.reduceBEq])
  refine lz_keep [4, 5, 11, 12] (fun m e h' => ∃ (i : Nat) (v : X), look e 13 .mk = .raw (.int .i64 (i : Nat)) ∧ m + i = l.length ∧ hg h' (hn g .mk + 1) .mk = some ⟨1, [v]⟩ ∧ OwnI (hn g .mk) h' v (outs l i) ∧ (∀ c, blockOf v = some c → c ≠ hn g .mk + 1) ∧ g.le h' ∧ hn g .mk + 2 ≤ hn h' .mk ∧ ∀ j, j < i → stepOk l j = true) l.length ?_ ?_
  · exact ⟨0, .raw (.slice (some ⟨hn g .mk, 0, none⟩) 0 0), by simp -dsimp -implicitDefEqProofs only [go_sem, Nat.reduceBEq, Nat.reduceAdd, Nat.reduceLeDiff, Nat.reduceMul, Int.reduceLE, Int.reduceLT, Int.reduceBEq], by omega, by simp -dsimp -implicitDefEqProofs only [go_sem, Nat.reduceBEq, Nat.reduceAdd, Nat.reduceLeDiff, Nat.reduceMul, Int.reduceLE, Int.reduceLT, Int.reduceBEq, hoo], ⟨rfl, .inr ⟨hn g .mk, rfl, Nat.le_refl _, by simp -dsimp -implicitDefEqProofs only [go_sem, Nat.reduceBEq, Nat.reduceAdd, Nat.reduceLeDiff, Nat.reduceMul, Int.reduceLE, Int.reduceLT, Int.reduceBEq] <;> omega, by simp -dsimp -implicitDefEqProofs only [go_sem, Nat.reduceBEq, Nat.reduceAdd, Nat.reduceLeDiff, Nat.reduceMul, Int.reduceLE, Int.reduceLT, Int.reduceBEq, hoo] <;> rfl⟩⟩, fun c hc => by simp only [blockOf, Option.some.injEq] at hc; omega, le_set (le_push (le_push (H2.le.refl _))) (by omega), by simp -dsimp -implicitDefEqProofs only [go_sem, Nat.reduceBEq, Nat.reduceAdd, Nat.reduceLeDiff, Nat.reduceMul, Int.reduceLE, Int.reduceLT, Int.reduceBEq] <;> omega, fun j hj => by omega⟩
  · rintro m e h' hks ⟨i, v, e13, hm, hbox, ow, hap, hle, hnn, hpre⟩
    simp -dsimp -implicitDefEqProofs only [go_sem, Nat.reduceBEq, Nat.reduceAdd, Nat.reduceLeDiff, Nat.reduceMul, Int.reduceLE, Int.reduceLT, Int.reduceBEq] at hks
    by_cases h1 : (i : Int) < (l.length : Int)
    · have hi : i < l.length := by omega
      repeat (first | rw [kz_o] | rw [kz_r0] | simp -dsimp -implicitDefEqProofs only [go_sem, Nat.reduceBEq, Nat.reduceAdd, Nat.reduceLeDiff, Nat.reduceMul, Int.reduceLE, Int.reduceLT, Int.reduceBEq, hks, e13, h1, hi, hoo])
      have hmi : l.getD i default = mAt l i := rfl
      rw [hmi]
      have hne : (hn g .mk + 1 == hn h' .mk) = false := by simp; omega
      have hb1 : hg (h'.push ⟨2, [.raw (.int .i64 (mAt l i).a), .raw (.int .i64 (mAt l i).b)]⟩) (hn g .mk + 1) .mk = some ⟨1, [v]⟩ := by rw [hg_push, hne]; exact hbox
      have ow1 := OwnI.keep ow (le_push (k := ⟨2, [.raw (.int .i64 (mAt l i).a), .raw (.int .i64 (mAt l i).b)]⟩) (H2.le.refl _))
      have le1 := le_push (k := ⟨2, [.raw (.int .i64 (mAt l i).a), .raw (.int .i64 (mAt l i).b)]⟩) hle
      refine wz_intro (isToken_ok ⟨by omega, by omega⟩) ?_
      rintro _ h2 ⟨rfl, rfl⟩
      cases ha : inI (mAt l i).a 0 (255 + (i : Int))
      · repeat (first | rw [kz_o] | rw [kz_r0] | simp -dsimp -implicitDefEqProofs only [go_sem, Nat.reduceBEq, Nat.reduceAdd, Nat.reduceLeDiff, Nat.reduceMul, Int.reduceLE, Int.reduceLT, Int.reduceBEq])
        exact ⟨le1, _, by rw [bad i hi (by unfold stepOk tokAt; rw [ha]; rfl)], rfl⟩
      repeat (first | rw [kz_o] | rw [kz_r0] | simp -dsimp -implicitDefEqProofs only [go_sem, Nat.reduceBEq, Nat.reduceAdd, Nat.reduceLeDiff, Nat.reduceMul, Int.reduceLE, Int.reduceLT, Int.reduceBEq, hoo])
      refine wz_intro (isToken_ok ⟨by omega, by omega⟩) ?_
      rintro _ h2 ⟨rfl, rfl⟩
      cases hb : inI (mAt l i).b 0 (255 + (i : Int))
      · repeat (first | rw [kz_o] | rw [kz_r0] | simp -dsimp -implicitDefEqProofs only [go_sem, Nat.reduceBEq, Nat.reduceAdd, Nat.reduceLeDiff, Nat.reduceMul, Int.reduceLE, Int.reduceLT, Int.reduceBEq])
        exact ⟨le1, _, by rw [bad i hi (by unfold stepOk tokAt; rw [ha, hb]; rfl)], rfl⟩
      have r1 := one_rng hpre (inI_tt ha)
      have r2 := one_rng hpre (inI_tt hb)
      have wn : IntKind.i64.wrap (szOne (outs l i) (mAt l i).a + szOne (outs l i) (mAt l i).b) = nAt l i := by unfold nAt; rw [wrap_i64] <;> omega
      repeat (first | rw [kz_o] | rw [kz_r0] | simp -dsimp -implicitDefEqProofs only [go_sem, Nat.reduceBEq, Nat.reduceAdd, Nat.reduceLeDiff, Nat.reduceMul, Int.reduceLE, Int.reduceLT, Int.reduceBEq, hoo])
      refine dq_intro [(0, []), (1, []), (2, []), (4, []), (5, []), (6, []), (3, [6]), (7, []), (8, []), (9, [])] (by kernel_rfl) ?_
      repeat (first | rw [kz_o] | rw [kz_r0] | simp -dsimp -implicitDefEqProofs only [go_sem, Nat.reduceBEq, Nat.reduceAdd, Nat.reduceLeDiff, Nat.reduceMul, Int.reduceLE, Int.reduceLT, Int.reduceBEq, hoo])
      refine wz_intro (sizesOf1_ok hb1 ow1 (inI_tt ha) (by omega)) ?_
      rintro _ h2 ⟨rfl, rfl⟩
      rw [kz_r]
      refine ⟨by simp -dsimp -implicitDefEqProofs only [go_sem, Nat.reduceBEq, Nat.reduceAdd, Nat.reduceLeDiff, Nat.reduceMul, Int.reduceLE, Int.reduceLT, Int.reduceBEq, hoo], ?_⟩
      repeat (first | rw [kz_o] | rw [kz_r0] | simp -dsimp -implicitDefEqProofs only [go_sem, Nat.reduceBEq, Nat.reduceAdd, Nat.reduceLeDiff, Nat.reduceMul, Int.reduceLE, Int.reduceLT, Int.reduceBEq])
      refine wz_intro (sizesOf1_ok hb1 ow1 (inI_tt hb) (by omega)) ?_
      rintro _ h2 ⟨rfl, rfl⟩
      repeat (first | rw [kz_o] | rw [kz_r0] | simp -dsimp -implicitDefEqProofs only [go_sem, Nat.reduceBEq, Nat.reduceAdd, Nat.reduceLeDiff, Nat.reduceMul, Int.reduceLE, Int.reduceLT, Int.reduceBEq, wn])
      by_cases hn64 : 64 < nAt l i
      · repeat (first | rw [kz_o] | rw [kz_r0] | simp -dsimp -implicitDefEqProofs only [go_sem, Nat.reduceBEq, Nat.reduceAdd, Nat.reduceLeDiff, Nat.reduceMul, Int.reduceLE, Int.reduceLT, Int.reduceBEq, hn64, gt_iff_lt])
        exact ⟨le1, _, by rw [bad i hi (by unfold stepOk; rw [decide_eq_false (by omega : ¬ nAt l i ≤ 64), Bool.and_false])], rfl⟩
      repeat (first | rw [kz_o] | rw [kz_r0] | simp -dsimp -implicitDefEqProofs only [go_sem, Nat.reduceBEq, Nat.reduceAdd, Nat.reduceLeDiff, Nat.reduceMul, Int.reduceLE, Int.reduceLT, Int.reduceBEq, hn64, gt_iff_lt, hb1])
      have hst : stepOk l i = true := by
        unfold stepOk tokAt
        rw [ha, hb, decide_eq_true (by omega : nAt l i ≤ 64)]; rfl
      refine append_iM (P := Try.prog) (D := fun _ => none) (N := hn g .mk) Go.Ai.ty_el27 Go.Ai.ty_zr3 Go.Ai.ty_cl27 (OwnI.keep ow1 (le_up1 (H2.le.refl _))) (by rw [hn_up, hn_push]; omega) (by rw [outs_len]; have : Go.Ai.most = 1099511627776 := rfl; omega) ?_
      intro v4 g4 ow4 nn4 le4 on4 ap4
      simp only [hn_up, hn_push] at nn4 ap4
      have hbox4 : hg g4 (hn g .mk + 1) .mk = some ⟨1, [v]⟩ := (on4 _ (by rw [hn_up, hn_push]; omega) (fun e => hap _ e rfl)).trans hb1
      have oc := ownI_cell ow4
      repeat (first | rw [kz_o] | rw [kz_r0] | simp -dsimp -implicitDefEqProofs only [go_sem, Nat.reduceBEq, Nat.reduceAdd, Nat.reduceLeDiff, Nat.reduceMul, Int.reduceLE, Int.reduceLT, Int.reduceBEq, hks, e13, hbox4, oc, hoo, wrap_succ hi (by omega)])
      refine nx_keep (m - 1) (by omega) (by simp -dsimp -implicitDefEqProofs only [go_sem, Nat.reduceBEq, Nat.reduceAdd, Nat.reduceLeDiff, Nat.reduceMul, Int.reduceLE, Int.reduceLT, Int.reduceBEq, hks]) ⟨i + 1, v4, by simp -dsimp -implicitDefEqProofs only [go_sem, Nat.reduceBEq, Nat.reduceAdd, Nat.reduceLeDiff, Nat.reduceMul, Int.reduceLE, Int.reduceLT, Int.reduceBEq], by omega, by simp -dsimp -implicitDefEqProofs only [go_sem, Nat.reduceBEq, Nat.reduceAdd, Nat.reduceLeDiff, Nat.reduceMul, Int.reduceLE, Int.reduceLT, Int.reduceBEq, hoo], ?_, fun c hc => by have := ap4 c hc; omega, le_set (le4 g (Nat.le_refl _) (le_up1 le1)) (by omega), by simp -dsimp -implicitDefEqProofs only [go_sem, Nat.reduceBEq, Nat.reduceAdd, Nat.reduceLeDiff, Nat.reduceMul, Int.reduceLE, Int.reduceLT, Int.reduceBEq] <;> omega, fun j hj => ?_⟩
      · rw [outs]
        exact ownI_frame ow4 (by rw [hn_set]; omega) fun c hc _ => by
          have := ap4 c hc
          rw [hg_set, show (c == hn g .mk + 1) = false by simp; omega]; rfl
      · by_cases hji : j = i
        · subst hji; exact hst
        · exact hpre j (by omega)
    · repeat (first | rw [kz_o] | rw [kz_r0] | simp -dsimp -implicitDefEqProofs only [go_sem, Nat.reduceBEq, Nat.reduceAdd, Nat.reduceLeDiff, Nat.reduceMul, Int.reduceLE, Int.reduceLT, Int.reduceBEq, hks, e13, h1, hbox])
      have oc := ownI_cell ow
      have hall : (List.range l.length).all (stepOk l) = true := by
        rw [List.all_eq_true]; intro j hj; exact hpre j (by have := List.mem_range.1 hj; omega)
      rw [hall]
      repeat (first | rw [kz_o] | rw [kz_r0] | simp -dsimp -implicitDefEqProofs only [go_sem, Nat.reduceBEq, Nat.reduceAdd, Nat.reduceLeDiff, Nat.reduceMul, Int.reduceLE, Int.reduceLT, Int.reduceBEq, oc])
      exact ⟨hle, v, rfl, oc.2.2⟩
end Go.Bi
