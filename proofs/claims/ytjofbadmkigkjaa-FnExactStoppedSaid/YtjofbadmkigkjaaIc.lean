/- MergesOk on both sides. -/
import Derived.Test.YtjofbadmkigkjaaIb
import Derived.Test.YtjofbadmkigkjaaCa
set_option linter.unusedSimpArgs false
set_option linter.unusedVariables false
set_option maxRecDepth 20000
namespace Go.Bi
open Go.Proofs
open Go.Ai (wrap_i64 wrap_u64 wrap_u8)
variable {W0 : World} {P : Program}
set_option maxHeartbeats 4000000
theorem rM_take {l : List LMerge} {i : Nat} : (rMergeS l).take i = rMergeS (l.take i) := by simp [rMergeS, List.map_take]
theorem implMergesOk_ok {f : Adr} {l : List LMerge} {g : H2} (hl0 : l.length ≤ 1048576) : PW Try.prog W0 127 [.sl f 2 (rMergeS l)] g (fun y => y = .raw (.bool (mergesB l))) := by
  refine PW.scalar ?_
  refine start (P := Try.prog) [[0], [0], [], [0], [0, 10, 11, 12], [0, 10, 11, 12], [0, 3, 4, 10, 11, 12], [], [0, 10, 11, 12], [0], [6]] (by kernel_rfl) Try.func127 rfl (by decide) (by decide +kernel) (rs := [.tmp 2]) rfl rfl (Nat.le_of_ble_eq_true rfl) ?_
  intro wf
  by_cases h16 : (16 : Int) < (l.length : Int)
  · repeat (first | rw [kz_o] | rw [kz_r0] | simp -dsimp -implicitDefEqProofs only [go_sem, Nat.reduceBEq, Nat.reduceAdd, Nat.reduceLeDiff, Nat.reduceMul, Int.reduceLE, Int.reduceLT, Int.reduceBEq, h16, gt_iff_lt])
    exact ⟨H2.le.refl _, ⟨_, rfl⟩, by rw [mergesB_len (by omega)]⟩
  repeat (first | rw [kz_o] | rw [kz_r0] | simp -dsimp -implicitDefEqProofs only [go_sem, Nat.reduceBEq, Nat.reduceAdd, Nat.reduceLeDiff, Nat.reduceMul, Int.reduceLE, Int.reduceLT, Int.reduceBEq, h16, gt_iff_lt])
  refine lz_keep [0, 10, 11] (fun m e h' => ∃ (i : Nat), look e 12 .mk = .raw (.int .i64 (i : Nat)) ∧ m + i = l.length ∧ g.le h' ∧ ∀ j, j < i → dupAt l j = false) l.length ?_ ?_
  · exact ⟨0, by simp -dsimp -implicitDefEqProofs only [go_sem, Nat.reduceBEq, Nat.reduceAdd, Nat.reduceLeDiff, Nat.reduceMul, Int.reduceLE, Int.reduceLT, Int.reduceBEq], by omega, H2.le.refl _, fun j hj => by omega⟩
  · rintro m e h' hks ⟨i, e12, hm, hle, hpre⟩
    simp -dsimp -implicitDefEqProofs only [go_sem, Nat.reduceBEq, Nat.reduceAdd, Nat.reduceLeDiff, Nat.reduceMul, Int.reduceLE, Int.reduceLT, Int.reduceBEq] at hks
    by_cases h1 : (i : Int) < (l.length : Int)
    · have hi : i < l.length := by omega
      have hi0 : (0 : Int) ≤ (i : Int) := by omega
      have hi1 : (i : Int) ≤ (l.length : Int) := by omega
      repeat (first | rw [kz_o] | rw [kz_r0] | simp -dsimp -implicitDefEqProofs only [go_sem, Nat.reduceBEq, Nat.reduceAdd, Nat.reduceLeDiff, Nat.reduceMul, Int.reduceLE, Int.reduceLT, Int.reduceBEq, hks, e12, h1, hi, hoo])
      refine dq_intro [(0, []), (1, []), (2, []), (3, []), (4, [])] (by kernel_rfl) ?_
      repeat (first | rw [kz_o] | rw [kz_r0] | simp -dsimp -implicitDefEqProofs only [go_sem, Nat.reduceBEq, Nat.reduceAdd, Nat.reduceLeDiff, Nat.reduceMul, Int.reduceLE, Int.reduceLT, Int.reduceBEq, hks, e12, h1, hi, hoo, hi0, hi1, rM_take, Nat.sub_zero, List.drop_zero])
      refine pw_intro (containsM_ok (F := fun _ _ => undef) (m := l.getD i default) (by rw [List.length_take]; omega)) ?_
      rintro _ n hn' rfl
      have hle2 := le_up (le_push (k := ⟨2, [.raw (.int .i64 (l.getD i default).a), .raw (.int .i64 (l.getD i default).b)]⟩) hle) hn'
      have hdd : decide (l.getD i default ∈ l.take i) = dupAt l i := rfl
      rw [hdd]
      cases hd : dupAt l i
      · repeat (first | rw [kz_o] | rw [kz_r0] | simp -dsimp -implicitDefEqProofs only [go_sem, Nat.reduceBEq, Nat.reduceAdd, Nat.reduceLeDiff, Nat.reduceMul, Int.reduceLE, Int.reduceLT, Int.reduceBEq, hks, e12, wrap_succ hi (by omega)])
        refine nx_keep (m - 1) (by omega) (by simp -dsimp -implicitDefEqProofs only [go_sem, Nat.reduceBEq, Nat.reduceAdd, Nat.reduceLeDiff, Nat.reduceMul, Int.reduceLE, Int.reduceLT, Int.reduceBEq, hks]) ⟨i + 1, by simp -dsimp -implicitDefEqProofs only [go_sem, Nat.reduceBEq, Nat.reduceAdd, Nat.reduceLeDiff, Nat.reduceMul, Int.reduceLE, Int.reduceLT, Int.reduceBEq], by omega, hle2, fun j hj => ?_⟩
        by_cases hji : j = i
        · subst hji; exact hd
        · exact hpre j (by omega)
      · repeat (first | rw [kz_o] | rw [kz_r0] | simp -dsimp -implicitDefEqProofs only [go_sem, Nat.reduceBEq, Nat.reduceAdd, Nat.reduceLeDiff, Nat.reduceMul, Int.reduceLE, Int.reduceLT, Int.reduceBEq])
        exact ⟨hle2, ⟨_, rfl⟩, by rw [mergesB_bad hi (by rw [hd, Bool.not_true, Bool.and_false])]⟩
    · repeat (first | rw [kz_o] | rw [kz_r0] | simp -dsimp -implicitDefEqProofs only [go_sem, Nat.reduceBEq, Nat.reduceAdd, Nat.reduceLeDiff, Nat.reduceMul, Int.reduceLE, Int.reduceLT, Int.reduceBEq, hks, e12, h1])
      refine wz_intro (sizesOf_ok (by omega)) ?_
      rintro _ g2 ⟨l2, v, rfl, hv⟩
      repeat (first | rw [kz_o] | rw [kz_r0] | simp -dsimp -implicitDefEqProofs only [go_sem, Nat.reduceBEq, Nat.reduceAdd, Nat.reduceLeDiff, Nat.reduceMul, Int.reduceLE, Int.reduceLT, Int.reduceBEq, hv])
      refine ⟨hle.trans l2, ⟨_, rfl⟩, ?_⟩
      have hd : ∀ j, j < l.length → dupAt l j = false := fun j hj => hpre j (by omega)
      congr 2
      unfold mergesB
      rw [decide_eq_true (by omega : l.length ≤ 16), Bool.true_and]
      cases ha : (List.range l.length).all (stepOk l)
      · symm
        rw [List.all_eq_false] at ha ⊢
        obtain ⟨j, h3, h4⟩ := ha
        refine ⟨j, h3, ?_⟩
        simp only [Bool.not_eq_true] at h4
        rw [h4]; simp
      · symm
        rw [List.all_eq_true] at ha ⊢
        intro j hj
        rw [ha j hj, hd j (List.mem_range.1 hj)]; rfl
theorem specMergesOk_ok {f : Adr} {l : List LMerge} {g : H2} (hl0 : l.length ≤ 1048576) : PW Try.prog W0 125 [.sl f 2 (rMergeS l)] g (fun y => y = .raw (.bool (mergesB l))) := by
  have hT : Go.Ai.intS? Try.prog 150 = some 2 := by kernel_rfl
  refine PW.scalar ?_
  refine start (P := Try.prog) [[0], [0], [], [0], [0, 3], [0, 3, 4], [0, 3, 4], [0, 3, 4], [], [0, 3, 4], [0, 3, 4, 5], [0, 3, 4, 5, 6], [0, 3, 4, 5, 6], [0, 3, 4, 5, 6], [0, 3, 4, 5, 6, 7], [0, 3, 4, 5, 6], [0, 3, 4, 5, 6, 7], [0, 3, 4, 5, 6], [0, 3, 4, 5, 6, 7], [0, 3, 4, 5], [0, 3, 4, 5, 8], [0, 3, 4, 5, 8], [0, 3, 4, 5, 8], [], [0, 3, 4, 5], [], [0, 3, 4, 5], []] (by kernel_rfl) Try.func125 rfl (by decide) (by decide +kernel) (rs := [.tmp 2]) rfl rfl (Nat.le_of_ble_eq_true rfl) ?_
  intro wf
  by_cases h16 : (16 : Int) < (l.length : Int)
  · repeat (first | rw [kz_o] | rw [kz_r0] | simp -dsimp -implicitDefEqProofs only [go_sem, Nat.reduceBEq, Nat.reduceAdd, Nat.reduceLeDiff, Nat.reduceMul, Int.reduceLE, Int.reduceLT, Int.reduceBEq, h16, gt_iff_lt])
    exact ⟨H2.le.refl _, ⟨_, rfl⟩, by rw [mergesB_len (by omega)]⟩
  repeat (first | rw [kz_o] | rw [kz_r0] | simp -dsimp -implicitDefEqProofs only [go_sem, Nat.reduceBEq, Nat.reduceAdd, Nat.reduceLeDiff, Nat.reduceMul, Int.reduceLE, Int.reduceLT, Int.reduceBEq, h16, gt_iff_lt])
  refine lz_keep [0] (fun m e h' => ∃ (i : Nat) (v : X), look e 4 .mk = .raw (.int .i64 (i : Nat)) ∧ look e 3 .mk = v ∧ m + i = l.length ∧ g.le h' ∧ OwnI (hn g .mk) h' v (outs l i) ∧ ∀ j, j < i → (stepOk l j && !dupAt l j) = true) l.length ?_ ?_
  · exact ⟨0, _, by simp -dsimp -implicitDefEqProofs only [go_sem, Nat.reduceBEq, Nat.reduceAdd, Nat.reduceLeDiff, Nat.reduceMul, Int.reduceLE, Int.reduceLT, Int.reduceBEq], by simp -dsimp -implicitDefEqProofs only [go_sem, Nat.reduceBEq, Nat.reduceAdd, Nat.reduceLeDiff, Nat.reduceMul, Int.reduceLE, Int.reduceLT, Int.reduceBEq] <;> rfl, by omega, le_push (H2.le.refl _), Own.new (Nat.le_refl _) rfl, fun j hj => by omega⟩
  · rintro m e h' hks ⟨i, v, e4, e3, hm, hle, ow, hpre⟩
    simp -dsimp -implicitDefEqProofs only [go_sem, Nat.reduceBEq, Nat.reduceAdd, Nat.reduceLeDiff, Nat.reduceMul, Int.reduceLE, Int.reduceLT, Int.reduceBEq] at hks
    have hst : ∀ j, j < i → stepOk l j = true := fun j hj => by have := hpre j hj; rw [Bool.and_eq_true] at this; exact this.1
    by_cases h1 : (i : Int) < (l.length : Int)
    · have hi : i < l.length := by omega
      have w1 : IntKind.i64.wrap (255 + (i : Int)) = 255 + (i : Int) := by rw [wrap_i64] <;> omega
      have hmi : l.getD i default = mAt l i := rfl
      repeat (first | rw [kz_o] | rw [kz_r0] | simp -dsimp -implicitDefEqProofs only [go_sem, Nat.reduceBEq, Nat.reduceAdd, Nat.reduceLeDiff, Nat.reduceMul, Int.reduceLE, Int.reduceLT, Int.reduceBEq, hks, e4, e3, h1, hi, hoo, w1])
      rw [hmi]
      refine wz_intro l01In_ok ?_
      rintro _ hx ⟨rfl, hxe⟩
      rw [hxe]
      clear hxe hx
      cases ha : inI (mAt l i).a 0 (255 + (i : Int))
      · repeat (first | rw [kz_o] | rw [kz_r0] | simp -dsimp -implicitDefEqProofs only [go_sem, Nat.reduceBEq, Nat.reduceAdd, Nat.reduceLeDiff, Nat.reduceMul, Int.reduceLE, Int.reduceLT, Int.reduceBEq])
        exact ⟨hle, ⟨_, rfl⟩, by rw [mergesB_bad hi (by unfold stepOk tokAt; rw [ha]; rfl)]⟩
      repeat (first | rw [kz_o] | rw [kz_r0] | simp -dsimp -implicitDefEqProofs only [go_sem, Nat.reduceBEq, Nat.reduceAdd, Nat.reduceLeDiff, Nat.reduceMul, Int.reduceLE, Int.reduceLT, Int.reduceBEq, hks, e4, e3, hi, hoo, w1, hmi])
      refine wz_intro l01In_ok ?_
      rintro _ hx ⟨rfl, hxe⟩
      rw [hxe]
      clear hxe hx
      cases hb : inI (mAt l i).b 0 (255 + (i : Int))
      · repeat (first | rw [kz_o] | rw [kz_r0] | simp -dsimp -implicitDefEqProofs only [go_sem, Nat.reduceBEq, Nat.reduceAdd, Nat.reduceLeDiff, Nat.reduceMul, Int.reduceLE, Int.reduceLT, Int.reduceBEq])
        exact ⟨hle, ⟨_, rfl⟩, by rw [mergesB_bad hi (by unfold stepOk tokAt; rw [ha, hb]; rfl)]⟩
      repeat (first | rw [kz_o] | rw [kz_r0] | simp -dsimp -implicitDefEqProofs only [go_sem, Nat.reduceBEq, Nat.reduceAdd, Nat.reduceLeDiff, Nat.reduceMul, Int.reduceLE, Int.reduceLT, Int.reduceBEq, hks, e4, e3])
      have r1 := one_rng hst (inI_tt ha)
      have r2 := one_rng hst (inI_tt hb)
      have hat : ∀ t : Int, 0 ≤ t ∧ t ≤ 255 + (i : Int) → ¬ t < 256 → ∃ (q k : Nat), v = .raw (.slice (some ⟨q, 0, none⟩) i i) ∧ hg h' q .mk = some ⟨1, (outs l i).map cI⟩ ∧ IntKind.i64.wrap (t - 256) = (k : Int) ∧ k < i ∧ latM (outs l i) k = szOne (outs l i) t := fun t ht hn => by
        obtain ⟨k, hk⟩ := Int.eq_ofNat_of_zero_le (a := t - 256) (by omega)
        obtain ⟨_, h | ⟨q, q1, q2, q3, q4⟩⟩ := ow
        · rw [outs_len] at h; omega
        · rw [outs_len] at q1
          refine ⟨q, k, q1, q4, by rw [wrap_i64] <;> omega, by omega, ?_⟩
          unfold szOne
          rw [if_neg hn, hk, Int.toNat_natCast]
      let nk : Nat → Int := fun k => if k = 0 then 0 else if k = 1 then szOne (outs l i) (mAt l i).a else nAt l i
      refine lz_join 2 [0, 3, 4] (fun m e h2 => ∃ k : Nat, look e 6 .mk = .raw (.int .i64 (k : Nat)) ∧ look e 5 .mk = .raw (.int .i64 (nk k)) ∧ m + k = 2 ∧ h2 = h') (fun e h2 => look e 5 .mk = .raw (.int .i64 (nAt l i)) ∧ h2 = h') 2 ?_ ?_ ?_
      · exact ⟨0, by simp -dsimp -implicitDefEqProofs only [go_sem, Nat.reduceBEq, Nat.reduceAdd, Nat.reduceLeDiff, Nat.reduceMul, Int.reduceLE, Int.reduceLT, Int.reduceBEq], by simp -dsimp -implicitDefEqProofs only [go_sem, Nat.reduceBEq, Nat.reduceAdd, Nat.reduceLeDiff, Nat.reduceMul, Int.reduceLE, Int.reduceLT, Int.reduceBEq] <;> rfl, by omega, rfl⟩
      · rintro m2 e2 h2 hks2 ⟨k, e6, e5, hm2, hxe⟩
        simp -dsimp -implicitDefEqProofs only [go_sem, Nat.reduceBEq, Nat.reduceAdd, Nat.reduceLeDiff, Nat.reduceMul, Int.reduceLE, Int.reduceLT, Int.reduceBEq, hks, e4, e3] at hks2
        rw [hxe]
        clear hxe
        by_cases hk2 : (k : Int) < 2
        · have hk3 : k = 0 ∨ k = 1 := by omega
          rcases hk3 with rfl | rfl
          · have z1 : ¬ (0 : Int) = 1 := by omega
            replace hk2 : (0 : Int) < 2 := by omega
            have w2 : IntKind.i64.wrap ((0 : Int) + 1) = 1 := by decide
            have w2' : IntKind.i64.wrap (1 : Int) = 1 := by decide
            by_cases h256 : (mAt l i).a < 256
            · have wa : IntKind.i64.wrap (nk 0 + 1) = nk 1 := by show IntKind.i64.wrap (0 + 1) = szOne _ _; unfold szOne; rw [if_pos h256]; decide
              repeat (first | rw [kz_o] | rw [kz_r0] | simp -dsimp -implicitDefEqProofs only [go_sem, Nat.reduceBEq, Nat.reduceAdd, Nat.reduceLeDiff, Nat.reduceMul, Int.reduceLE, Int.reduceLT, Int.reduceBEq, hks2, e6, e5, hk2, hi, hmi, z1, h256, wa, w2, w2'])
              exact nx_keep (m2 - 1) (by omega) (by simp -dsimp -implicitDefEqProofs only [go_sem, Nat.reduceBEq, Nat.reduceAdd, Nat.reduceLeDiff, Nat.reduceMul, Int.reduceLE, Int.reduceLT, Int.reduceBEq, hks, e4, e3, hks2]) ⟨1, (by simp -dsimp -implicitDefEqProofs only [go_sem, Nat.reduceBEq, Nat.reduceAdd, Nat.reduceLeDiff, Nat.reduceMul, Int.reduceLE, Int.reduceLT, Int.reduceBEq, w2, w2'] <;> rfl), (by simp -dsimp -implicitDefEqProofs only [go_sem, Nat.reduceBEq, Nat.reduceAdd, Nat.reduceLeDiff, Nat.reduceMul, Int.reduceLE, Int.reduceLT, Int.reduceBEq, wa] <;> rfl), by omega, rfl⟩
            · obtain ⟨q, k, rfl, q1, q2, q3, q4⟩ := hat _ (inI_tt ha) h256
              have wa : IntKind.i64.wrap (nk 0 + latM (outs l i) k) = nk 1 := by show IntKind.i64.wrap (0 + _) = szOne _ _; rw [q4, wrap_i64] <;> omega
              have i0 : (0 : Int) ≤ (k : Int) ∧ (k : Int) < (i : Int) := by omega
              have e0 := get_M (l := outs l i) (i := k) (by rw [outs_len]; exact q3)
              repeat (first | rw [kz_o] | rw [kz_r0] | simp -dsimp -implicitDefEqProofs only [go_sem, Nat.reduceBEq, Nat.reduceAdd, Nat.reduceLeDiff, Nat.reduceMul, Int.reduceLE, Int.reduceLT, Int.reduceBEq, hks2, e6, e5, hk2, hi, hmi, z1, h256, q2, q1, i0, e0, wa, w2, w2'])
              exact nx_keep (m2 - 1) (by omega) (by simp -dsimp -implicitDefEqProofs only [go_sem, Nat.reduceBEq, Nat.reduceAdd, Nat.reduceLeDiff, Nat.reduceMul, Int.reduceLE, Int.reduceLT, Int.reduceBEq, hks, e4, e3, hks2]) ⟨1, (by simp -dsimp -implicitDefEqProofs only [go_sem, Nat.reduceBEq, Nat.reduceAdd, Nat.reduceLeDiff, Nat.reduceMul, Int.reduceLE, Int.reduceLT, Int.reduceBEq, w2, w2'] <;> rfl), (by simp -dsimp -implicitDefEqProofs only [go_sem, Nat.reduceBEq, Nat.reduceAdd, Nat.reduceLeDiff, Nat.reduceMul, Int.reduceLE, Int.reduceLT, Int.reduceBEq, wa] <;> rfl), by omega, rfl⟩
          · have z1 : ((1 : Nat) : Int) = 1 := rfl
            have w2 : IntKind.i64.wrap ((1 : Int) + 1) = 2 := by decide
            have w2' : IntKind.i64.wrap (2 : Int) = 2 := by decide
            by_cases h256 : (mAt l i).b < 256
            · have wa : IntKind.i64.wrap (nk 1 + 1) = nk 2 := by
                show IntKind.i64.wrap (szOne _ _ + 1) = szOne _ _ + szOne _ _
                have : szOne (outs l i) (mAt l i).b = 1 := by unfold szOne; rw [if_pos h256]
                rw [this, wrap_i64] <;> omega
              repeat (first | rw [kz_o] | rw [kz_r0] | simp -dsimp -implicitDefEqProofs only [go_sem, Nat.reduceBEq, Nat.reduceAdd, Nat.reduceLeDiff, Nat.reduceMul, Int.reduceLE, Int.reduceLT, Int.reduceBEq, hks2, e6, e5, hk2, hi, hmi, z1, h256, wa, w2, w2'])
              exact nx_keep (m2 - 1) (by omega) (by simp -dsimp -implicitDefEqProofs only [go_sem, Nat.reduceBEq, Nat.reduceAdd, Nat.reduceLeDiff, Nat.reduceMul, Int.reduceLE, Int.reduceLT, Int.reduceBEq, hks, e4, e3, hks2]) ⟨2, (by simp -dsimp -implicitDefEqProofs only [go_sem, Nat.reduceBEq, Nat.reduceAdd, Nat.reduceLeDiff, Nat.reduceMul, Int.reduceLE, Int.reduceLT, Int.reduceBEq, w2, w2', z1] <;> rfl), (by simp -dsimp -implicitDefEqProofs only [go_sem, Nat.reduceBEq, Nat.reduceAdd, Nat.reduceLeDiff, Nat.reduceMul, Int.reduceLE, Int.reduceLT, Int.reduceBEq, wa] <;> rfl), by omega, rfl⟩
            · obtain ⟨q, k, rfl, q1, q2, q3, q4⟩ := hat _ (inI_tt hb) h256
              have wa : IntKind.i64.wrap (nk 1 + latM (outs l i) k) = nk 2 := by show IntKind.i64.wrap (szOne _ _ + _) = szOne _ _ + szOne _ _; rw [q4, wrap_i64] <;> omega
              have i0 : (0 : Int) ≤ (k : Int) ∧ (k : Int) < (i : Int) := by omega
              have e0 := get_M (l := outs l i) (i := k) (by rw [outs_len]; exact q3)
              repeat (first | rw [kz_o] | rw [kz_r0] | simp -dsimp -implicitDefEqProofs only [go_sem, Nat.reduceBEq, Nat.reduceAdd, Nat.reduceLeDiff, Nat.reduceMul, Int.reduceLE, Int.reduceLT, Int.reduceBEq, hks2, e6, e5, hk2, hi, hmi, z1, h256, q2, q1, i0, e0, wa, w2, w2'])
              exact nx_keep (m2 - 1) (by omega) (by simp -dsimp -implicitDefEqProofs only [go_sem, Nat.reduceBEq, Nat.reduceAdd, Nat.reduceLeDiff, Nat.reduceMul, Int.reduceLE, Int.reduceLT, Int.reduceBEq, hks, e4, e3, hks2]) ⟨2, (by simp -dsimp -implicitDefEqProofs only [go_sem, Nat.reduceBEq, Nat.reduceAdd, Nat.reduceLeDiff, Nat.reduceMul, Int.reduceLE, Int.reduceLT, Int.reduceBEq, w2, w2', z1] <;> rfl), (by simp -dsimp -implicitDefEqProofs only [go_sem, Nat.reduceBEq, Nat.reduceAdd, Nat.reduceLeDiff, Nat.reduceMul, Int.reduceLE, Int.reduceLT, Int.reduceBEq, wa] <;> rfl), by omega, rfl⟩
        · have : k = 2 := by omega
          subst this
          repeat (first | rw [kz_o] | rw [kz_r0] | simp -dsimp -implicitDefEqProofs only [go_sem, Nat.reduceBEq, Nat.reduceAdd, Nat.reduceLeDiff, Nat.reduceMul, Int.reduceLE, Int.reduceLT, Int.reduceBEq, hks2, e6, e5, hk2])
          exact out_keep (by simp -dsimp -implicitDefEqProofs only [go_sem, Nat.reduceBEq, Nat.reduceAdd, Nat.reduceLeDiff, Nat.reduceMul, Int.reduceLE, Int.reduceLT, Int.reduceBEq, hks, e4, e3, hks2]) ⟨by simp -dsimp -implicitDefEqProofs only [go_sem, Nat.reduceBEq, Nat.reduceAdd, Nat.reduceLeDiff, Nat.reduceMul, Int.reduceLE, Int.reduceLT, Int.reduceBEq, e5] <;> rfl, rfl⟩
      · rintro e2 h2 hks2 ⟨e5, hxe⟩
        simp -dsimp -implicitDefEqProofs only [go_sem, Nat.reduceBEq, Nat.reduceAdd, Nat.reduceLeDiff, Nat.reduceMul, Int.reduceLE, Int.reduceLT, Int.reduceBEq, hks, e4, e3] at hks2
        rw [hxe]
        clear hxe
        repeat (first | rw [kz_o] | rw [kz_r0] | simp -dsimp -implicitDefEqProofs only [go_sem, Nat.reduceBEq, Nat.reduceAdd, Nat.reduceLeDiff, Nat.reduceMul, Int.reduceLE, Int.reduceLT, Int.reduceBEq, hks2, e5])
        refine lz_join 4 [0, 3, 4, 5] (fun m e h2 => ∃ k : Nat, look e 8 .mk = .raw (.int .i64 (k : Nat)) ∧ m + k = i ∧ h2 = h' ∧ ∀ j, j < k → mAt l j ≠ mAt l i) (fun e h2 => h2 = h' ∧ dupAt l i = false) i ?_ ?_ ?_
        · exact ⟨0, by simp -dsimp -implicitDefEqProofs only [go_sem, Nat.reduceBEq, Nat.reduceAdd, Nat.reduceLeDiff, Nat.reduceMul, Int.reduceLE, Int.reduceLT, Int.reduceBEq], by omega, rfl, fun j hj => by omega⟩
        · rintro m3 e3' h3 hks3 ⟨k, e8, hm3, hxe, hne⟩
          simp -dsimp -implicitDefEqProofs only [go_sem, Nat.reduceBEq, Nat.reduceAdd, Nat.reduceLeDiff, Nat.reduceMul, Int.reduceLE, Int.reduceLT, Int.reduceBEq, hks2, e5] at hks3
          rw [hxe]
          clear hxe
          by_cases hk : (k : Int) < (i : Int)
          · have hkl : k < l.length := by omega
            have hE := eq_merge (x := l.getD k default) (y := l.getD i default) hT
            repeat (first | rw [kz_o] | rw [kz_r0] | simp -dsimp -implicitDefEqProofs only [go_sem, Nat.reduceBEq, Nat.reduceAdd, Nat.reduceLeDiff, Nat.reduceMul, Int.reduceLE, Int.reduceLT, Int.reduceBEq, hks3, e8, hk])
            refine dq_intro [(0, []), (1, []), (2, []), (3, []), (4, []), (5, []), (6, []), (7, []), (8, [])] (by kernel_rfl) ?_
            by_cases heq : l.getD k default = l.getD i default
            · repeat (first | rw [kz_o] | rw [kz_r0] | simp -dsimp -implicitDefEqProofs only [go_sem, Nat.reduceBEq, Nat.reduceAdd, Nat.reduceLeDiff, Nat.reduceMul, Int.reduceLE, Int.reduceLT, Int.reduceBEq, hks3, e8, hk, hkl, hi, hoo, hE, decide_eq_true heq])
              refine ⟨hle, ⟨_, rfl⟩, by rw [mergesB_bad hi]; rw [show dupAt l i = true from decide_eq_true ?_, Bool.not_true, Bool.and_false]; rw [mAt, ← heq, List.mem_take_iff_getElem]; exact ⟨k, by omega, by rw [List.getD_eq_getElem?_getD, List.getElem?_eq_getElem hkl]; rfl⟩⟩
            · repeat (first | rw [kz_o] | rw [kz_r0] | simp -dsimp -implicitDefEqProofs only [go_sem, Nat.reduceBEq, Nat.reduceAdd, Nat.reduceLeDiff, Nat.reduceMul, Int.reduceLE, Int.reduceLT, Int.reduceBEq, hks3, e8, hk, hkl, hi, hoo, hE, decide_eq_false heq, wrap_succ hkl (by omega)])
              refine nx_keep (m3 - 1) (by omega) (by simp -dsimp -implicitDefEqProofs only [go_sem, Nat.reduceBEq, Nat.reduceAdd, Nat.reduceLeDiff, Nat.reduceMul, Int.reduceLE, Int.reduceLT, Int.reduceBEq, hks2, e5, hks3]) ⟨k + 1, by simp -dsimp -implicitDefEqProofs only [go_sem, Nat.reduceBEq, Nat.reduceAdd, Nat.reduceLeDiff, Nat.reduceMul, Int.reduceLE, Int.reduceLT, Int.reduceBEq], by omega, rfl, fun j hj => ?_⟩
              by_cases hjk : j = k
              · subst hjk; exact heq
              · exact hne j (by omega)
          · repeat (first | rw [kz_o] | rw [kz_r0] | simp -dsimp -implicitDefEqProofs only [go_sem, Nat.reduceBEq, Nat.reduceAdd, Nat.reduceLeDiff, Nat.reduceMul, Int.reduceLE, Int.reduceLT, Int.reduceBEq, hks3, e8, hk])
            refine out_keep (by simp -dsimp -implicitDefEqProofs only [go_sem, Nat.reduceBEq, Nat.reduceAdd, Nat.reduceLeDiff, Nat.reduceMul, Int.reduceLE, Int.reduceLT, Int.reduceBEq, hks2, e5, hks3]) ⟨rfl, decide_eq_false fun hm => ?_⟩
            rw [List.mem_take_iff_getElem] at hm
            obtain ⟨j, hj, e⟩ := hm
            refine hne j (by omega) ?_
            rw [← e, mAt, List.getD_eq_getElem?_getD, List.getElem?_eq_getElem (by omega)]; rfl
        · rintro e4' h4 hks4 ⟨hxe, hdup⟩
          simp -dsimp -implicitDefEqProofs only [go_sem, Nat.reduceBEq, Nat.reduceAdd, Nat.reduceLeDiff, Nat.reduceMul, Int.reduceLE, Int.reduceLT, Int.reduceBEq, hks2, e5] at hks4
          rw [hxe]
          clear hxe
          by_cases h64 : 64 < nAt l i
          · repeat (first | rw [kz_o] | rw [kz_r0] | simp -dsimp -implicitDefEqProofs only [go_sem, Nat.reduceBEq, Nat.reduceAdd, Nat.reduceLeDiff, Nat.reduceMul, Int.reduceLE, Int.reduceLT, Int.reduceBEq, hks4, h64, gt_iff_lt])
            exact ⟨hle, ⟨_, rfl⟩, by rw [mergesB_bad hi (by unfold stepOk; rw [decide_eq_false (by omega : ¬ nAt l i ≤ 64), Bool.and_false]; rfl)]⟩
          have hsi : stepOk l i = true := by
            unfold stepOk tokAt
            rw [ha, hb, decide_eq_true (by omega : nAt l i ≤ 64)]; rfl
          repeat (first | rw [kz_o] | rw [kz_r0] | simp -dsimp -implicitDefEqProofs only [go_sem, Nat.reduceBEq, Nat.reduceAdd, Nat.reduceLeDiff, Nat.reduceMul, Int.reduceLE, Int.reduceLT, Int.reduceBEq, hks4, h64, gt_iff_lt])
          refine append_iM (P := Try.prog) (D := fun _ => none) (N := hn g .mk) Go.Ai.ty_el27 Go.Ai.ty_zr3 Go.Ai.ty_cl27 (OwnI.keep ow (le_up1 (H2.le.refl _))) (by rw [hn_up]; have := hle.1; omega) (by rw [outs_len]; have : Go.Ai.most = 1099511627776 := rfl; omega) ?_
          intro v5 g5 ow5 nn5 le5 on5 ap5
          repeat (first | rw [kz_o] | rw [kz_r0] | simp -dsimp -implicitDefEqProofs only [go_sem, Nat.reduceBEq, Nat.reduceAdd, Nat.reduceLeDiff, Nat.reduceMul, Int.reduceLE, Int.reduceLT, Int.reduceBEq, hks4, wrap_succ hi (by omega)])
          refine nx_keep (m - 1) (by omega) (by simp -dsimp -implicitDefEqProofs only [go_sem, Nat.reduceBEq, Nat.reduceAdd, Nat.reduceLeDiff, Nat.reduceMul, Int.reduceLE, Int.reduceLT, Int.reduceBEq, hks, hks4]) ⟨i + 1, v5, by simp -dsimp -implicitDefEqProofs only [go_sem, Nat.reduceBEq, Nat.reduceAdd, Nat.reduceLeDiff, Nat.reduceMul, Int.reduceLE, Int.reduceLT, Int.reduceBEq], by simp -dsimp -implicitDefEqProofs only [go_sem, Nat.reduceBEq, Nat.reduceAdd, Nat.reduceLeDiff, Nat.reduceMul, Int.reduceLE, Int.reduceLT, Int.reduceBEq], by omega, le5 g (Nat.le_refl _) (le_up1 hle), ow5, fun j hj => ?_⟩
          by_cases hji : j = i
          · subst hji; rw [hsi, hdup]; rfl
          · exact hpre j (by omega)
    · repeat (first | rw [kz_o] | rw [kz_r0] | simp -dsimp -implicitDefEqProofs only [go_sem, Nat.reduceBEq, Nat.reduceAdd, Nat.reduceLeDiff, Nat.reduceMul, Int.reduceLE, Int.reduceLT, Int.reduceBEq, hks, e4, e3, h1])
      exact ⟨hle, ⟨_, rfl⟩, by rw [mergesB_ok (by omega) fun j hj => hpre j (by omega)]⟩
end Go.Bi
