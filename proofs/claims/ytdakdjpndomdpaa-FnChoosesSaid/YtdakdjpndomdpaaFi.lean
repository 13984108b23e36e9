/- The walk of the reference's TopOf. -/
import Derived.Test.YtdakdjpndomdpaaFh
set_option linter.unusedSimpArgs false
set_option linter.unusedVariables false
set_option maxRecDepth 20000
namespace Go.Bi
open Go.Proofs
open Go.Ai (wrap_i64 wrap_u64 wrap_u8 Heap)
variable {W0 : World} {P : Program}
set_option maxHeartbeats 4000000
theorem l19In_ok {f : Adr} {zs : List Int} {x : Int} {g : H2} (hs : zs.length ≤ 1048576) : PW Try.prog W0 71 [.sl f 1 (ints zs), .raw (.int .i64 x)] g (fun y => y = .raw (.bool (decide (x ∈ zs)))) := by
  refine PW.scalar ((?_ : WC2 _ _ _ _ _ fun v g' => g' = g ∧ v = .raw (.bool (decide (x ∈ zs)))).mono fun v g' ⟨h1, h2⟩ => ⟨by rw [h1]; exact H2.le.refl _, ⟨_, h2⟩, h2⟩)
  refine start (P := Try.prog) [[0, 1], [0, 1], [0, 1, 5], [0, 1, 5], [0, 1, 5], [], []] (by kernel_rfl) Try.func71 rfl (by decide) (by decide +kernel) (rs := [.tmp 4]) rfl rfl (Nat.le_of_ble_eq_true rfl) ?_
  intro wf
  repeat (first | rw [kz_o] | rw [kz_r0] | simp -dsimp -implicitDefEqProofs only [go_sem, Nat.reduceBEq, Nat.reduceAdd, Nat.reduceLeDiff, Nat.reduceMul, Int.reduceLE, Int.reduceLT, Int.reduceBEq])
  refine lz_keep [0, 1] (fun m e h' => ∃ i : Nat, h' = g ∧ look e 5 .mk = .raw (.int .i64 (i : Nat)) ∧ m + i = zs.length ∧ ∀ j, j < i → zs.getD j default ≠ x) zs.length ?_ ?_
  · exact ⟨0, rfl, by simp -dsimp -implicitDefEqProofs only [go_sem, Nat.reduceBEq, Nat.reduceAdd, Nat.reduceLeDiff, Nat.reduceMul, Int.reduceLE, Int.reduceLT, Int.reduceBEq], by omega, fun j hj => by omega⟩
  · rintro m e h' hks ⟨i, rfl, e5, hm, hpre⟩
    simp -dsimp -implicitDefEqProofs only [go_sem, Nat.reduceBEq, Nat.reduceAdd, Nat.reduceLeDiff, Nat.reduceMul, Int.reduceLE, Int.reduceLT, Int.reduceBEq] at hks
    repeat (first | rw [kz_o] | rw [kz_r0] | simp -dsimp -implicitDefEqProofs only [go_sem, Nat.reduceBEq, Nat.reduceAdd, Nat.reduceLeDiff, Nat.reduceMul, Int.reduceLE, Int.reduceLT, Int.reduceBEq, hks, e5])
    refine gz_dec (fun h2 => ?_) (fun h2 => ?_)
    · have h3 : i < zs.length := by omega
      repeat (first | rw [kz_o] | rw [kz_r0] | simp -dsimp -implicitDefEqProofs only [go_sem, Nat.reduceBEq, Nat.reduceAdd, Nat.reduceLeDiff, Nat.reduceMul, Int.reduceLE, Int.reduceLT, Int.reduceBEq, hks, e5, h3])
      refine gz_dec (fun h4 => ?_) (fun h4 => ?_)
      · repeat (first | rw [kz_o] | rw [kz_r0] | simp -dsimp -implicitDefEqProofs only [go_sem, Nat.reduceBEq, Nat.reduceAdd, Nat.reduceLeDiff, Nat.reduceMul, Int.reduceLE, Int.reduceLT, Int.reduceBEq])
        have : x ∈ zs := by
          rw [← h4, List.getD_eq_getElem?_getD, List.getElem?_eq_getElem h3]; exact List.getElem_mem h3
        exact ⟨rfl, by rw [decide_eq_true this]⟩
      · have w1 : IntKind.i64.wrap ((i : Int) + 1) = ((i + 1 : Nat) : Int) := by rw [wrap_i64] <;> omega
        repeat (first | rw [kz_o] | rw [kz_r0] | simp -dsimp -implicitDefEqProofs only [go_sem, Nat.reduceBEq, Nat.reduceAdd, Nat.reduceLeDiff, Nat.reduceMul, Int.reduceLE, Int.reduceLT, Int.reduceBEq, hks, e5, w1])
        refine nx_keep (m - 1) (by omega) (by simp -dsimp -implicitDefEqProofs only [go_sem, Nat.reduceBEq, Nat.reduceAdd, Nat.reduceLeDiff, Nat.reduceMul, Int.reduceLE, Int.reduceLT, Int.reduceBEq, hks]) ⟨i + 1, rfl, by simp -dsimp -implicitDefEqProofs only [go_sem, Nat.reduceBEq, Nat.reduceAdd, Nat.reduceLeDiff, Nat.reduceMul, Int.reduceLE, Int.reduceLT, Int.reduceBEq, w1], by omega, fun j hj => ?_⟩
        by_cases hji : j = i
        · subst hji; exact h4
        · exact hpre j (by omega)
    · repeat (first | rw [kz_o] | rw [kz_r0] | simp -dsimp -implicitDefEqProofs only [go_sem, Nat.reduceBEq, Nat.reduceAdd, Nat.reduceLeDiff, Nat.reduceMul, Int.reduceLE, Int.reduceLT, Int.reduceBEq])
      refine ⟨rfl, ?_⟩
      rw [decide_eq_false]
      intro hx
      obtain ⟨j, hj, e⟩ := List.getElem_of_mem hx
      refine hpre j (by omega) ?_
      rw [List.getD_eq_getElem?_getD, List.getElem?_eq_getElem hj]; exact e
theorem OwnI.lenb {N : Nat} {g h : H2} {v : X} {zs : List Int} {t : TypeId} (o : OwnI N g v zs) (hc : Go.Ai.cls? P t = some .sl) : biz P h .len [t] [v] .mk = some (.raw (.int .i64 zs.length), h) := by
  obtain ⟨_, ⟨rfl, h0⟩ | ⟨b, rfl, _⟩⟩ := o
  · rw [len_slr hc, h0]
  · rw [len_slr hc]
theorem topP_len {K : Int → Int} {n : Nat} : ∀ {k : Nat}, (topP K n k).length = k
  | 0 => rfl
  | k + 1 => by rw [topP, List.length_append, topP_len]; rfl
theorem bestP_rng {K : Int → Int} {out : List Int} {n : Nat} : ∀ {d : Nat}, d ≤ n → bestP K out n d = -1 ∨ (0 ≤ bestP K out n d ∧ bestP K out n d < n)
  | 0, _ => .inl rfl
  | d + 1, h => by
    rw [bestP]; split
    · omega
    · exact bestP_rng (by omega)
theorem specTopOf_ok {f : Adr} {zs : List Int} {k : Int} {g : H2} (hs : zs.length ≤ 1048576) : PI Try.prog W0 32 [.sl f 1 (ints zs), .raw (.int .i64 k)] g (topI zs k) := by
  refine start (P := Try.prog) [[0, 1], [0, 1], [0, 1, 5], [5], [0, 1, 5], [0, 1, 5], [0, 1, 5, 6], [0, 1, 5, 6, 7], [0, 1, 5, 6, 7], [0, 1, 5, 6, 7], [0, 1, 5, 7], [0, 1, 5, 6], [5]] (by kernel_rfl) Try.func32 rfl (by decide) (by decide +kernel) (rs := [.tmp 4]) rfl rfl (Nat.le_of_ble_eq_true rfl) ?_
  intro wf
  repeat (first | rw [kz_o] | rw [kz_r0] | simp -dsimp -implicitDefEqProofs only [go_sem, Nat.reduceBEq, Nat.reduceAdd, Nat.reduceLeDiff, Nat.reduceMul, Int.reduceLE, Int.reduceLT, Int.reduceBEq])
  refine wz_intro l01In_ok ?_
  rintro _ h1 ⟨rfl, rfl⟩
  have early : ¬ (inI k 1 8 = true ∧ zs.length ≤ 400) → topI zs k = [] := fun h => if_neg h
  cases hin : inI k 1 8
  · repeat (first | rw [kz_o] | rw [kz_r0] | simp -dsimp -implicitDefEqProofs only [go_sem, Nat.reduceBEq, Nat.reduceAdd, Nat.reduceLeDiff, Nat.reduceMul, Int.reduceLE, Int.reduceLT, Int.reduceBEq])
    exact ⟨le_push (H2.le.refl _), by rw [early (by rw [hin]; simp)]; exact Own.new (Nat.le_refl _) rfl⟩
  · repeat (first | rw [kz_o] | rw [kz_r0] | simp -dsimp -implicitDefEqProofs only [go_sem, Nat.reduceBEq, Nat.reduceAdd, Nat.reduceLeDiff, Nat.reduceMul, Int.reduceLE, Int.reduceLT, Int.reduceBEq])
    refine gz_dec (fun h2 => ?_) (fun h2 => ?_)
    · repeat (first | rw [kz_o] | rw [kz_r0] | simp -dsimp -implicitDefEqProofs only [go_sem, Nat.reduceBEq, Nat.reduceAdd, Nat.reduceLeDiff, Nat.reduceMul, Int.reduceLE, Int.reduceLT, Int.reduceBEq])
      exact ⟨le_push (H2.le.refl _), by rw [early (by omega)]; exact Own.new (Nat.le_refl _) rfl⟩
    · repeat (first | rw [kz_o] | rw [kz_r0] | simp -dsimp -implicitDefEqProofs only [go_sem, Nat.reduceBEq, Nat.reduceAdd, Nat.reduceLeDiff, Nat.reduceMul, Int.reduceLE, Int.reduceLT, Int.reduceBEq])
      have hk2 := inI_t hin
      refine lz_keep [0, 1] (fun m e h' => ∃ (j : Nat) (v : X), look e 5 .mk = v ∧ j ≤ zs.length ∧ (j : Int) ≤ k ∧ m + j = zs.length ∧ OwnI (hn g .mk) h' v (topP (keyZ zs) zs.length j) ∧ g.le h') zs.length ?_ ?_
      · exact ⟨0, _, by simp -dsimp -implicitDefEqProofs only [go_sem, Nat.reduceBEq, Nat.reduceAdd, Nat.reduceLeDiff, Nat.reduceMul, Int.reduceLE, Int.reduceLT, Int.reduceBEq] <;> rfl, by omega, by omega, by omega, Own.new (Nat.le_refl _) rfl, le_push (H2.le.refl _)⟩
      · rintro m e h' hks ⟨j, v, e5, hj1, hj2, hm, ho, hle⟩
        simp -dsimp -implicitDefEqProofs only [go_sem, Nat.reduceBEq, Nat.reduceAdd, Nat.reduceLeDiff, Nat.reduceMul, Int.reduceLE, Int.reduceLT, Int.reduceBEq] at hks
        have hl : ∀ (t : TypeId) (h : H2), Go.Ai.cls? Try.prog t = some .sl → biz Try.prog h .len [t] [v] .mk = some (.raw (.int .i64 (j : Nat)), h) := fun t h hc => by
          rw [ho.lenb hc, topP_len]
        by_cases h3 : (j : Int) < k
        · by_cases h4 : (j : Int) < zs.length
          · have w1 : IntKind.i64.wrap ((zs.length : Int) - 1) = (zs.length : Int) - 1 - ((0 : Nat) : Int) := by rw [wrap_i64] <;> omega
            repeat (first | rw [kz_o] | rw [kz_r0] | simp -dsimp -implicitDefEqProofs only [go_sem, Nat.reduceBEq, Nat.reduceAdd, Nat.reduceLeDiff, Nat.reduceMul, Int.reduceLE, Int.reduceLT, Int.reduceBEq, hks, e5, hl, h3, h4])
            refine lz_join 2 [0, 1, 5] (fun m e h' => ∃ d : Nat, look e 7 .mk = .raw (.int .i64 ((zs.length : Int) - 1 - (d : Nat))) ∧ look e 6 .mk = .raw (.int .i64 (bestP (keyZ zs) (topP (keyZ zs) zs.length j) zs.length d)) ∧ m + d = zs.length ∧ OwnI (hn g .mk) h' v (topP (keyZ zs) zs.length j) ∧ g.le h')
              (fun e h' => look e 6 .mk = .raw (.int .i64 (bestP (keyZ zs) (topP (keyZ zs) zs.length j) zs.length zs.length)) ∧ OwnI (hn g .mk) h' v (topP (keyZ zs) zs.length j) ∧ g.le h') zs.length ?_ ?_ ?_
            · exact ⟨0, by simp -dsimp -implicitDefEqProofs only [go_sem, Nat.reduceBEq, Nat.reduceAdd, Nat.reduceLeDiff, Nat.reduceMul, Int.reduceLE, Int.reduceLT, Int.reduceBEq, w1], by simp -dsimp -implicitDefEqProofs only [go_sem, Nat.reduceBEq, Nat.reduceAdd, Nat.reduceLeDiff, Nat.reduceMul, Int.reduceLE, Int.reduceLT, Int.reduceBEq] <;> rfl, by omega, ho, hle⟩
            · rintro m2 e2 h2' hks2 ⟨d, e7, e6, hm2, ho2, hle2⟩
              simp -dsimp -implicitDefEqProofs only [go_sem, Nat.reduceBEq, Nat.reduceAdd, Nat.reduceLeDiff, Nat.reduceMul, Int.reduceLE, Int.reduceLT, Int.reduceBEq, hks] at hks2
              by_cases h5 : 0 ≤ (zs.length : Int) - 1 - (d : Nat)
              · repeat (first | rw [kz_o] | rw [kz_r0] | simp -dsimp -implicitDefEqProofs only [go_sem, Nat.reduceBEq, Nat.reduceAdd, Nat.reduceLeDiff, Nat.reduceMul, Int.reduceLE, Int.reduceLT, Int.reduceBEq, hks2, e7, e6, h5])
                refine dq_intro [(0, []), (1, []), (2, []), (3, []), (4, []), (5, []), (6, []), (7, []), (8, []), (9, []), (10, []), (11, []), (12, []), (13, []), (14, []), (15, []), (16, []), (17, []), (18, [])] (by kernel_rfl) ?_
                repeat (first | rw [kz_o] | rw [kz_r0] | simp -dsimp -implicitDefEqProofs only [go_sem, Nat.reduceBEq, Nat.reduceAdd, Nat.reduceLeDiff, Nat.reduceMul, Int.reduceLE, Int.reduceLT, Int.reduceBEq, hks2, e7, e6])
                obtain ⟨F, hF⟩ := ho2.lent
                refine pw_intro (PW.lend (.cons hF (.cons lent_raw .nil)) (l19In_ok (by rw [topP_len]; omega)) (fun y hy => by subst hy; exact .raw)) ?_
                rintro _ n6 hn6 rfl
                obtain ⟨i, hi⟩ : ∃ i : Nat, (zs.length : Int) - 1 - (d : Nat) = (i : Nat) := ⟨zs.length - 1 - d, by omega⟩
                have hi2 : i < zs.length := by omega
                have wd : IntKind.i64.wrap ((zs.length : Int) - 1 - (d : Nat) - 1) = (zs.length : Int) - 1 - ((d + 1 : Nat) : Int) := by rw [wrap_i64] <;> omega
                rw [hi] at e7 wd
                have hup := le_up hle2 hn6
                have houp := ho2.keep (le_up (H2.le.refl _) hn6)
                have hb := bestP_rng (K := keyZ zs) (out := topP (keyZ zs) zs.length j) (n := zs.length) (d := d) (by omega)
                have hstep : bestP (keyZ zs) (topP (keyZ zs) zs.length j) zs.length (d + 1) = if (i : Int) ∉ topP (keyZ zs) zs.length j ∧ (bestP (keyZ zs) (topP (keyZ zs) zs.length j) zs.length d < 0 ∨ keyZ zs (bestP (keyZ zs) (topP (keyZ zs) zs.length j) zs.length d) ≤ keyZ zs (i : Int)) then (i : Int) else bestP (keyZ zs) (topP (keyZ zs) zs.length j) zs.length d := by rw [bestP, hi]
                have kk : ∀ i : Nat, keyZ zs (i : Int) = zs.getD i default := fun i => by rw [keyZ, lat, Int.toNat_natCast]; rfl
                rw [hi]
                by_cases hmem : (i : Int) ∈ topP (keyZ zs) zs.length j
                · rw [if_neg (fun h => h.1 hmem)] at hstep
                  repeat (first | rw [kz_o] | rw [kz_r0] | simp -dsimp -implicitDefEqProofs only [go_sem, Nat.reduceBEq, Nat.reduceAdd, Nat.reduceLeDiff, Nat.reduceMul, Int.reduceLE, Int.reduceLT, Int.reduceBEq, hks2, e7, e6, hmem, wd])
                  exact nx_keep (m2 - 1) (by omega) (by simp -dsimp -implicitDefEqProofs only [go_sem, Nat.reduceBEq, Nat.reduceAdd, Nat.reduceLeDiff, Nat.reduceMul, Int.reduceLE, Int.reduceLT, Int.reduceBEq, hks, hks2]) ⟨d + 1, by simp -dsimp -implicitDefEqProofs only [go_sem, Nat.reduceBEq, Nat.reduceAdd, Nat.reduceLeDiff, Nat.reduceMul, Int.reduceLE, Int.reduceLT, Int.reduceBEq, wd], by simp -dsimp -implicitDefEqProofs only [go_sem, Nat.reduceBEq, Nat.reduceAdd, Nat.reduceLeDiff, Nat.reduceMul, Int.reduceLE, Int.reduceLT, Int.reduceBEq, e6]; rw [hstep], by omega, houp, hup⟩
                · by_cases hneg : bestP (keyZ zs) (topP (keyZ zs) zs.length j) zs.length d < 0
                  · rw [if_pos ⟨hmem, .inl hneg⟩] at hstep
                    repeat (first | rw [kz_o] | rw [kz_r0] | simp -dsimp -implicitDefEqProofs only [go_sem, Nat.reduceBEq, Nat.reduceAdd, Nat.reduceLeDiff, Nat.reduceMul, Int.reduceLE, Int.reduceLT, Int.reduceBEq, hks2, e7, e6, hmem, hneg, wd])
                    exact nx_keep (m2 - 1) (by omega) (by simp -dsimp -implicitDefEqProofs only [go_sem, Nat.reduceBEq, Nat.reduceAdd, Nat.reduceLeDiff, Nat.reduceMul, Int.reduceLE, Int.reduceLT, Int.reduceBEq, hks, hks2]) ⟨d + 1, by simp -dsimp -implicitDefEqProofs only [go_sem, Nat.reduceBEq, Nat.reduceAdd, Nat.reduceLeDiff, Nat.reduceMul, Int.reduceLE, Int.reduceLT, Int.reduceBEq, wd], by simp -dsimp -implicitDefEqProofs only [go_sem, Nat.reduceBEq, Nat.reduceAdd, Nat.reduceLeDiff, Nat.reduceMul, Int.reduceLE, Int.reduceLT, Int.reduceBEq]; rw [hstep], by omega, houp, hup⟩
                  · obtain ⟨b, hbn⟩ := Int.eq_ofNat_of_zero_le (a := bestP (keyZ zs) (topP (keyZ zs) zs.length j) zs.length d) (by omega)
                    rw [hbn] at e6 hneg hstep hb ⊢
                    have hb2 : b < zs.length := by omega
                    rw [kk, kk] at hstep
                    by_cases hge : zs.getD b default ≤ zs.getD i default
                    · rw [if_pos ⟨hmem, .inr hge⟩] at hstep
                      repeat (first | rw [kz_o] | rw [kz_r0] | simp -dsimp -implicitDefEqProofs only [go_sem, Nat.reduceBEq, Nat.reduceAdd, Nat.reduceLeDiff, Nat.reduceMul, Int.reduceLE, Int.reduceLT, Int.reduceBEq, hks2, e7, e6, hmem, hneg, hi2, hb2, hge, wd, ge_iff_le])
                      exact nx_keep (m2 - 1) (by omega) (by simp -dsimp -implicitDefEqProofs only [go_sem, Nat.reduceBEq, Nat.reduceAdd, Nat.reduceLeDiff, Nat.reduceMul, Int.reduceLE, Int.reduceLT, Int.reduceBEq, hks, hks2]) ⟨d + 1, by simp -dsimp -implicitDefEqProofs only [go_sem, Nat.reduceBEq, Nat.reduceAdd, Nat.reduceLeDiff, Nat.reduceMul, Int.reduceLE, Int.reduceLT, Int.reduceBEq, wd], by simp -dsimp -implicitDefEqProofs only [go_sem, Nat.reduceBEq, Nat.reduceAdd, Nat.reduceLeDiff, Nat.reduceMul, Int.reduceLE, Int.reduceLT, Int.reduceBEq]; rw [hstep], by omega, houp, hup⟩
                    · rw [if_neg (fun h => h.2.elim hneg hge)] at hstep
                      repeat (first | rw [kz_o] | rw [kz_r0] | simp -dsimp -implicitDefEqProofs only [go_sem, Nat.reduceBEq, Nat.reduceAdd, Nat.reduceLeDiff, Nat.reduceMul, Int.reduceLE, Int.reduceLT, Int.reduceBEq, hks2, e7, e6, hmem, hneg, hi2, hb2, hge, wd, ge_iff_le])
                      exact nx_keep (m2 - 1) (by omega) (by simp -dsimp -implicitDefEqProofs only [go_sem, Nat.reduceBEq, Nat.reduceAdd, Nat.reduceLeDiff, Nat.reduceMul, Int.reduceLE, Int.reduceLT, Int.reduceBEq, hks, hks2]) ⟨d + 1, by simp -dsimp -implicitDefEqProofs only [go_sem, Nat.reduceBEq, Nat.reduceAdd, Nat.reduceLeDiff, Nat.reduceMul, Int.reduceLE, Int.reduceLT, Int.reduceBEq, wd], by simp -dsimp -implicitDefEqProofs only [go_sem, Nat.reduceBEq, Nat.reduceAdd, Nat.reduceLeDiff, Nat.reduceMul, Int.reduceLE, Int.reduceLT, Int.reduceBEq, e6]; rw [hstep], by omega, houp, hup⟩
              · have : d = zs.length := by omega
                subst this
                repeat (first | rw [kz_o] | rw [kz_r0] | simp -dsimp -implicitDefEqProofs only [go_sem, Nat.reduceBEq, Nat.reduceAdd, Nat.reduceLeDiff, Nat.reduceMul, Int.reduceLE, Int.reduceLT, Int.reduceBEq, hks2, e7, e6, h5])
                exact out_keep (by simp -dsimp -implicitDefEqProofs only [go_sem, Nat.reduceBEq, Nat.reduceAdd, Nat.reduceLeDiff, Nat.reduceMul, Int.reduceLE, Int.reduceLT, Int.reduceBEq, hks, hks2]) ⟨by simp -dsimp -implicitDefEqProofs only [go_sem, Nat.reduceBEq, Nat.reduceAdd, Nat.reduceLeDiff, Nat.reduceMul, Int.reduceLE, Int.reduceLT, Int.reduceBEq, e6], ho2, hle2⟩
            · rintro e3 h3' hks3 ⟨e6, ho3, hle3⟩
              simp -dsimp -implicitDefEqProofs only [go_sem, Nat.reduceBEq, Nat.reduceAdd, Nat.reduceLeDiff, Nat.reduceMul, Int.reduceLE, Int.reduceLT, Int.reduceBEq, hks] at hks3
              repeat (first | rw [kz_o] | rw [kz_r0] | simp -dsimp -implicitDefEqProofs only [go_sem, Nat.reduceBEq, Nat.reduceAdd, Nat.reduceLeDiff, Nat.reduceMul, Int.reduceLE, Int.reduceLT, Int.reduceBEq, hks3, e6])
              refine append_int (P := Try.prog) (D := fun _ => none) (N := hn g .mk) Go.Ai.ty_el40 Go.Ai.ty_zr3 Go.Ai.ty_cl40 (ho3.keep (le_up1 (H2.le.refl _))) (by rw [hn_up]; have := hle3.1; omega) (by rw [topP_len]; have : Go.Ai.most = 1099511627776 := rfl; omega) ?_
              intro v' g6 ow6 nn6 le6 on6
              repeat (first | rw [kz_o] | rw [kz_r0] | simp -dsimp -implicitDefEqProofs only [go_sem, Nat.reduceBEq, Nat.reduceAdd, Nat.reduceLeDiff, Nat.reduceMul, Int.reduceLE, Int.reduceLT, Int.reduceBEq, hks3])
              exact nx_keep (m - 1) (by omega) (by simp -dsimp -implicitDefEqProofs only [go_sem, Nat.reduceBEq, Nat.reduceAdd, Nat.reduceLeDiff, Nat.reduceMul, Int.reduceLE, Int.reduceLT, Int.reduceBEq, hks, hks3]) ⟨j + 1, v', by simp -dsimp -implicitDefEqProofs only [go_sem, Nat.reduceBEq, Nat.reduceAdd, Nat.reduceLeDiff, Nat.reduceMul, Int.reduceLE, Int.reduceLT, Int.reduceBEq], by omega, by omega, by omega, ow6, le6 g (Nat.le_refl _) (le_up1 hle3)⟩
          · have : j = zs.length := by omega
            repeat (first | rw [kz_o] | rw [kz_r0] | simp -dsimp -implicitDefEqProofs only [go_sem, Nat.reduceBEq, Nat.reduceAdd, Nat.reduceLeDiff, Nat.reduceMul, Int.reduceLE, Int.reduceLT, Int.reduceBEq, hks, e5, hl, h3, h4])
            refine ⟨hle, ?_⟩
            rw [topI, if_pos ⟨hin, by omega⟩, Nat.min_eq_right (by omega), ← this]
            rw [← this] at ho; exact ho
        · repeat (first | rw [kz_o] | rw [kz_r0] | simp -dsimp -implicitDefEqProofs only [go_sem, Nat.reduceBEq, Nat.reduceAdd, Nat.reduceLeDiff, Nat.reduceMul, Int.reduceLE, Int.reduceLT, Int.reduceBEq, hks, e5, hl, h3])
          refine ⟨hle, ?_⟩
          rw [topI, if_pos ⟨hin, by omega⟩, Nat.min_eq_left (by omega), show k.toNat = j by omega]
          exact ho
end Go.Bi
