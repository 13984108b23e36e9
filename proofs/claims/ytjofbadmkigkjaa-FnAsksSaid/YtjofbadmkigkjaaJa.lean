/- What FnAsks draws, first part: bytes, picks, any config. -/
import Derived.Test.YtjofbadmkigkjaaDs
import Derived.Test.YtjofbadmkigkjaaEc
set_option linter.unusedSimpArgs false
set_option linter.unusedVariables false
set_option maxRecDepth 20000
namespace Go.Bi
open Go.Proofs
open Go.Ai (wrap_i64 wrap_u64 wrap_u8)
variable {W0 : World} {P : Program}
set_option maxHeartbeats 1000000
theorem text0_ok {b n : Nat} {f : Adr} {bs : List Int} {g : H2} (co : Cur g b f bs) (hn0 : n ≤ 5000) : DrawC Try.prog W0 88 [.raw (.pointer (some ⟨b, 0, none⟩)), .raw (.int .i64 n)] g b f bs fun v => ∃ s : ByteArray, v = .raw (.string s) ∧ s.size = n := by
  refine start (P := Try.prog) [[0, 1], [0, 1], [0], [0, 1], [0, 1, 5], [0, 1, 5, 6], [0, 1, 5, 6], [0, 1, 5, 6], [5]] (by kernel_rfl) Try.func88 rfl (by decide) (by decide +kernel) (rs := [.tmp 4]) rfl rfl (Nat.le_of_ble_eq_true rfl) ?_
  intro wf
  have hno : ¬ ((n : Int) > 5000) := by omega
  repeat (first | rw [kz_o] | rw [kz_r0] | simp -dsimp -implicitDefEqProofs only [go_sem, Nat.reduceBEq, Nat.reduceAdd, Nat.reduceLeDiff, Nat.reduceMul, Int.reduceLE, Int.reduceLT, Int.reduceBEq, hno])
  refine lz_keep [0, 1] (fun m e h' => ∃ (i : Nat) (zs : List Int) (v : X), look e 6 .mk = .raw (.int .i64 (i : Nat)) ∧ look e 5 .mk = v ∧ m + i = n ∧ zs.length = i ∧ OwnU (hn g .mk) h' v zs ∧ Cur h' b f bs ∧ OnlyR g h' b) n ?_ ?_
  · exact ⟨0, [], _, by simp -dsimp -implicitDefEqProofs only [go_sem, Nat.reduceBEq, Nat.reduceAdd, Nat.reduceLeDiff, Nat.reduceMul, Int.reduceLE, Int.reduceLT, Int.reduceBEq], by simp -dsimp -implicitDefEqProofs only [go_sem, Nat.reduceBEq, Nat.reduceAdd, Nat.reduceLeDiff, Nat.reduceMul, Int.reduceLE, Int.reduceLT, Int.reduceBEq] <;> rfl, by omega, rfl, Own.new (Nat.le_refl _) rfl, co.le (le_push (H2.le.refl _)), OnlyR.refl.push⟩
  · rintro m e h' hks ⟨i, zs, v, e6, e5, hm, hz, ow, co1, on1⟩
    simp -dsimp -implicitDefEqProofs only [go_sem, Nat.reduceBEq, Nat.reduceAdd, Nat.reduceLeDiff, Nat.reduceMul, Int.reduceLE, Int.reduceLT, Int.reduceBEq] at hks
    by_cases h1 : (i : Int) < (n : Int)
    · repeat (first | rw [kz_o] | rw [kz_r0] | simp -dsimp -implicitDefEqProofs only [go_sem, Nat.reduceBEq, Nat.reduceAdd, Nat.reduceLeDiff, Nat.reduceMul, Int.reduceLE, Int.reduceLT, Int.reduceBEq, hks, e6, e5, h1])
      refine wz_intro (byte_ok co1) ?_
      rintro _ g3 ⟨⟨r, rfl, r1, r2⟩, co3, on3⟩
      have w1 : IntKind.i64.wrap ((i : Int) + 1) = ((i + 1 : Nat) : Int) := by rw [wrap_i64] <;> omega
      have on3' : OnlyR g g3 b := on1.trans on3
      have ow3 : OwnU (hn g .mk) g3 v zs := own_only ow on3 co.1
      repeat (first | rw [kz_o] | rw [kz_r0] | simp -dsimp -implicitDefEqProofs only [go_sem, Nat.reduceBEq, Nat.reduceAdd, Nat.reduceLeDiff, Nat.reduceMul, Int.reduceLE, Int.reduceLT, Int.reduceBEq])
      refine append_u8 (P := Try.prog) (D := fun _ => none) (N := hn g .mk) Go.Ai.ty_el22 Go.Ai.ty_zr5 Go.Ai.ty_cl22 (Own.up ow3 (Nat.le_succ _)) (by rw [hn_up]; have := on3'.1; omega) (by rw [hz]; have : Go.Ai.most = 1099511627776 := rfl; omega) ?_
      intro v4 g4 ow4 nn4 le4 on4
      have onb : OnlyR g g4 b := ⟨by have := on3'.1; simp only [hn_up] at nn4; omega, fun c h1 h2 => (on4 c (by rw [hn_up]; have := on3'.1; omega) (own_apart ow3 h1)).trans (on3'.2 c h1 h2)⟩
      have co4 : Cur g4 b f bs := ⟨by have := on3'.1; have := co.1; simp only [hn_up] at nn4; omega, co.2.1, by
        obtain ⟨q1, q2, q3, q4⟩ := co3.2.2
        exact ⟨q1, q2, (on4 b (by rw [hn_up]; have := co3.1; omega) (own_apart ow3 co.1)).trans q3, q4⟩⟩
      repeat (first | rw [kz_o] | rw [kz_r0] | simp -dsimp -implicitDefEqProofs only [go_sem, Nat.reduceBEq, Nat.reduceAdd, Nat.reduceLeDiff, Nat.reduceMul, Int.reduceLE, Int.reduceLT, Int.reduceBEq, hks, e6, w1])
      exact nx_keep (m - 1) (by omega) (by simp -dsimp -implicitDefEqProofs only [go_sem, Nat.reduceBEq, Nat.reduceAdd, Nat.reduceLeDiff, Nat.reduceMul, Int.reduceLE, Int.reduceLT, Int.reduceBEq, hks]) ⟨i + 1, _, v4, by simp -dsimp -implicitDefEqProofs only [go_sem, Nat.reduceBEq, Nat.reduceAdd, Nat.reduceLeDiff, Nat.reduceMul, Int.reduceLE, Int.reduceLT, Int.reduceBEq, w1], by simp -dsimp -implicitDefEqProofs only [go_sem, Nat.reduceBEq, Nat.reduceAdd, Nat.reduceLeDiff, Nat.reduceMul, Int.reduceLE, Int.reduceLT, Int.reduceBEq], by omega, by simp [hz], ow4, co4, onb⟩
    · repeat (first | rw [kz_o] | rw [kz_r0] | simp -dsimp -implicitDefEqProofs only [go_sem, Nat.reduceBEq, Nat.reduceAdd, Nat.reduceLeDiff, Nat.reduceMul, Int.reduceLE, Int.reduceLT, Int.reduceBEq, hks, e6, e5, h1])
      have hsrc := src_own (g := h') ow
      rw [cv_src (n := zs.length) (l := zs.map cU) Go.Ai.ty_cl22 Go.Ai.ty_cl9 (by simp -dsimp -implicitDefEqProofs only [go_sem, Nat.reduceBEq, Nat.reduceAdd, Nat.reduceLeDiff, Nat.reduceMul, Int.reduceLE, Int.reduceLT, Int.reduceBEq]) (by simp -dsimp -implicitDefEqProofs only [go_sem, Nat.reduceBEq, Nat.reduceAdd, Nat.reduceLeDiff, Nat.reduceMul, Int.reduceLE, Int.reduceLT, Int.reduceBEq]) (by simp -dsimp -implicitDefEqProofs only [go_sem, Nat.reduceBEq, Nat.reduceAdd, Nat.reduceLeDiff, Nat.reduceMul, Int.reduceLE, Int.reduceLT, Int.reduceBEq]) hsrc, bytes_cU]
      repeat (first | rw [kz_o] | rw [kz_r0] | simp -dsimp -implicitDefEqProofs only [go_sem, Nat.reduceBEq, Nat.reduceAdd, Nat.reduceLeDiff, Nat.reduceMul, Int.reduceLE, Int.reduceLT, Int.reduceBEq])
      exact ⟨⟨_, rfl, by simp [ByteArray.size]; omega⟩, co1, on1⟩
theorem pick_ok {b : Nat} {f f' : Adr} {bs : List Int} {zs : List ByteArray} {g : H2} (co : Cur g b f bs) (h0 : 0 < zs.length) (hm : zs.length ≤ 9223372036854775807) : DrawC Try.prog W0 122 [.raw (.pointer (some ⟨b, 0, none⟩)), .sl f' 1 (strs zs)] g b f bs fun v => ∃ r, v = .raw (.string r) ∧ r ∈ zs := by
  refine start (P := Try.prog) [[0, 1], [0, 1]] (by kernel_rfl) Try.func122 rfl (by decide) (by decide +kernel) (rs := [.tmp 4]) rfl rfl (Nat.le_of_ble_eq_true rfl) ?_
  intro wf
  repeat (first | rw [kz_o] | rw [kz_r0] | simp -dsimp -implicitDefEqProofs only [go_sem, Nat.reduceBEq, Nat.reduceAdd, Nat.reduceLeDiff, Nat.reduceMul, Int.reduceLE, Int.reduceLT, Int.reduceBEq])
  refine wz_intro (below_ok co (by omega)) ?_
  rintro _ g1 ⟨⟨r, rfl, r1, r2, r3⟩, co1, on1⟩
  obtain ⟨k, rfl⟩ := Int.eq_ofNat_of_zero_le r1
  have h3 : k < zs.length := by have := r2 (by omega); omega
  repeat (first | rw [kz_o] | rw [kz_r0] | simp -dsimp -implicitDefEqProofs only [go_sem, Nat.reduceBEq, Nat.reduceAdd, Nat.reduceLeDiff, Nat.reduceMul, Int.reduceLE, Int.reduceLT, Int.reduceBEq, h3])
  refine ⟨⟨_, rfl, ?_⟩, co1, on1⟩
  rw [List.getD_eq_getElem?_getD, List.getElem?_eq_getElem h3]; exact List.getElem_mem h3
theorem append_i2 {D : Nat → Option (List Nat)} {g : H2} {K : KT} {t u U y N : Nat} {xs : List Int} {x : X} {f : Adr} {s : Int} (he : Go.Ai.elt? P t = some (U, 1, y)) (hz : Go.Ai.zr? P U = some [.int .i64 0]) (hu : Go.Ai.cls? P u = some .sl)
    (hx : OwnI N g x xs) (hN0 : N ≤ hn g .mk) (hn0 : (xs.length + 1) * (y + 1) ≤ Go.Ai.most)
    (hk : ∀ v' g', OwnI N g' v' (xs ++ [s]) → hn g .mk ≤ hn g' .mk → (∀ g0 : H2, hn g0 .mk ≤ N → g0.le g → g0.le g') → (∀ c, c < hn g .mk → blockOf x ≠ some c → hg g' c .mk = hg g c .mk) → kz K v' g' .mk) :
    az (biz P g .append [t, u] [x, .sl f 1 [[.v (.int .i64 s)]]] .mk) K .mk := by
  refine append_own (z := 0) (m := 1) (news := [cI s]) (N := N) he hz rfl hu hx hN0 rfl rfl rfl hn0 ?_
  intro v' g' o
  refine hk v' g' ?_
  unfold OwnI
  rw [List.map_append, List.length_append]
  exact o
theorem picks_ok {b n : Nat} {f : Adr} {bs : List Int} {g : H2} (co : Cur g b f bs) (hn0 : n ≤ 5000) : WC2 Try.prog W0 120 [.raw (.pointer (some ⟨b, 0, none⟩)), .raw (.int .i64 n)] g fun v g' => (∃ zs : List Int, OwnI (hn g .mk) g' v zs ∧ zs.length ≤ n) ∧ Cur g' b f bs ∧ OnlyR g g' b := by
  refine start (P := Try.prog) [[0, 1], [0, 1], [0, 1, 5], [0, 1, 5, 6], [0, 1, 5, 6], [0, 1, 5, 6], [0, 1, 5, 6], [5]] (by kernel_rfl) Try.func120 rfl (by decide) (by decide +kernel) (rs := [.tmp 4]) rfl rfl (Nat.le_of_ble_eq_true rfl) ?_
  intro wf
  repeat (first | rw [kz_o] | rw [kz_r0] | simp -dsimp -implicitDefEqProofs only [go_sem, Nat.reduceBEq, Nat.reduceAdd, Nat.reduceLeDiff, Nat.reduceMul, Int.reduceLE, Int.reduceLT, Int.reduceBEq])
  refine lz_keep [0, 1] (fun m e h' => ∃ (i : Nat) (zs : List Int) (v : X), look e 6 .mk = .raw (.int .i64 (i : Nat)) ∧ look e 5 .mk = v ∧ m + i = n ∧ zs.length ≤ i ∧ OwnI (hn g .mk) h' v zs ∧ Cur h' b f bs ∧ OnlyR g h' b) n ?_ ?_
  · exact ⟨0, [], _, by simp -dsimp -implicitDefEqProofs only [go_sem, Nat.reduceBEq, Nat.reduceAdd, Nat.reduceLeDiff, Nat.reduceMul, Int.reduceLE, Int.reduceLT, Int.reduceBEq], by simp -dsimp -implicitDefEqProofs only [go_sem, Nat.reduceBEq, Nat.reduceAdd, Nat.reduceLeDiff, Nat.reduceMul, Int.reduceLE, Int.reduceLT, Int.reduceBEq] <;> rfl, by omega, Nat.le_refl _, Own.new (Nat.le_refl _) rfl, co.le (le_push (H2.le.refl _)), OnlyR.refl.push⟩
  · rintro m e h' hks ⟨i, zs, v, e6, e5, hm, hz, ow, co1, on1⟩
    simp -dsimp -implicitDefEqProofs only [go_sem, Nat.reduceBEq, Nat.reduceAdd, Nat.reduceLeDiff, Nat.reduceMul, Int.reduceLE, Int.reduceLT, Int.reduceBEq] at hks
    have w1 : i < n → IntKind.i64.wrap ((i : Int) + 1) = ((i + 1 : Nat) : Int) := fun _ => by rw [wrap_i64] <;> omega
    by_cases h1 : (i : Int) < (n : Int)
    · have w1 := w1 (by omega)
      repeat (first | rw [kz_o] | rw [kz_r0] | simp -dsimp -implicitDefEqProofs only [go_sem, Nat.reduceBEq, Nat.reduceAdd, Nat.reduceLeDiff, Nat.reduceMul, Int.reduceLE, Int.reduceLT, Int.reduceBEq, hks, e6, e5, h1])
      refine wz_intro (once_ok co1 (by omega)) ?_
      rintro _ g3 ⟨⟨r, rfl⟩, co3, on3⟩
      have on3' : OnlyR g g3 b := on1.trans on3
      have ow3 : OwnI (hn g .mk) g3 v zs := own_only ow on3 co.1
      cases r
      · repeat (first | rw [kz_o] | rw [kz_r0] | simp -dsimp -implicitDefEqProofs only [go_sem, Nat.reduceBEq, Nat.reduceAdd, Nat.reduceLeDiff, Nat.reduceMul, Int.reduceLE, Int.reduceLT, Int.reduceBEq, hks, e6, e5])
        refine append_i2 (P := Try.prog) (D := fun _ => none) (N := hn g .mk) Go.Ai.ty_el27 Go.Ai.ty_zr3 Go.Ai.ty_cl27 (Own.up ow3 (Nat.le_succ _)) (by rw [hn_up]; have := on3'.1; omega) (by have : Go.Ai.most = 1099511627776 := rfl; omega) ?_
        intro v4 g4 ow4 nn4 le4 on4
        have onb : OnlyR g g4 b := ⟨by have := on3'.1; simp only [hn_up] at nn4; omega, fun c h1 h2 => (on4 c (by rw [hn_up]; have := on3'.1; omega) (own_apart ow3 h1)).trans (on3'.2 c h1 h2)⟩
        have co4 : Cur g4 b f bs := ⟨by have := on3'.1; have := co.1; simp only [hn_up] at nn4; omega, co.2.1, by
          obtain ⟨q1, q2, q3, q4⟩ := co3.2.2
          exact ⟨q1, q2, (on4 b (by rw [hn_up]; have := co3.1; omega) (own_apart ow3 co.1)).trans q3, q4⟩⟩
        repeat (first | rw [kz_o] | rw [kz_r0] | simp -dsimp -implicitDefEqProofs only [go_sem, Nat.reduceBEq, Nat.reduceAdd, Nat.reduceLeDiff, Nat.reduceMul, Int.reduceLE, Int.reduceLT, Int.reduceBEq, hks, e6, w1])
        exact nx_keep (m - 1) (by omega) (by simp -dsimp -implicitDefEqProofs only [go_sem, Nat.reduceBEq, Nat.reduceAdd, Nat.reduceLeDiff, Nat.reduceMul, Int.reduceLE, Int.reduceLT, Int.reduceBEq, hks]) ⟨i + 1, _, v4, by simp -dsimp -implicitDefEqProofs only [go_sem, Nat.reduceBEq, Nat.reduceAdd, Nat.reduceLeDiff, Nat.reduceMul, Int.reduceLE, Int.reduceLT, Int.reduceBEq, w1], by simp -dsimp -implicitDefEqProofs only [go_sem, Nat.reduceBEq, Nat.reduceAdd, Nat.reduceLeDiff, Nat.reduceMul, Int.reduceLE, Int.reduceLT, Int.reduceBEq], by omega, by simp; omega, ow4, co4, onb⟩
      · repeat (first | rw [kz_o] | rw [kz_r0] | simp -dsimp -implicitDefEqProofs only [go_sem, Nat.reduceBEq, Nat.reduceAdd, Nat.reduceLeDiff, Nat.reduceMul, Int.reduceLE, Int.reduceLT, Int.reduceBEq, hks, e6, w1])
        exact nx_keep (m - 1) (by omega) (by simp -dsimp -implicitDefEqProofs only [go_sem, Nat.reduceBEq, Nat.reduceAdd, Nat.reduceLeDiff, Nat.reduceMul, Int.reduceLE, Int.reduceLT, Int.reduceBEq, hks]) ⟨i + 1, _, v, by simp -dsimp -implicitDefEqProofs only [go_sem, Nat.reduceBEq, Nat.reduceAdd, Nat.reduceLeDiff, Nat.reduceMul, Int.reduceLE, Int.reduceLT, Int.reduceBEq, w1], by simp -dsimp -implicitDefEqProofs only [go_sem, Nat.reduceBEq, Nat.reduceAdd, Nat.reduceLeDiff, Nat.reduceMul, Int.reduceLE, Int.reduceLT, Int.reduceBEq, e5], by omega, by omega, ow3, co3, on3'⟩
    · repeat (first | rw [kz_o] | rw [kz_r0] | simp -dsimp -implicitDefEqProofs only [go_sem, Nat.reduceBEq, Nat.reduceAdd, Nat.reduceLeDiff, Nat.reduceMul, Int.reduceLE, Int.reduceLT, Int.reduceBEq, hks, e6, e5, h1])
      exact ⟨⟨zs, ow, by omega⟩, co1, on1⟩
theorem spoilt_ok {b : Nat} {f : Adr} {bs : List Int} {g : H2} {s : ByteArray} (co : Cur g b f bs) (hs : s.size ≤ 4000000000) : DrawC Try.prog W0 45 [.raw (.pointer (some ⟨b, 0, none⟩)), .raw (.string s)] g b f bs fun v => ∃ t : ByteArray, v = .raw (.string t) ∧ t.size ≤ 4000000001 := by
  refine start (P := Try.prog) [[0, 1], [0, 1], [0, 1, 7], [0, 1], [0, 1, 7], [0, 1], [0, 1, 7], [0, 1, 7], [0, 1], [0, 1], [0, 1, 5], [1]] (by kernel_rfl) Try.func45 rfl (by decide) (by decide +kernel) (rs := [.tmp 4]) rfl rfl (Nat.le_of_ble_eq_true rfl) ?_
  intro wf
  repeat (first | rw [kz_o] | rw [kz_r0] | simp -dsimp -implicitDefEqProofs only [go_sem, Nat.reduceBEq, Nat.reduceAdd, Nat.reduceLeDiff, Nat.reduceMul, Int.reduceLE, Int.reduceLT, Int.reduceBEq])
  refine wz_intro (below_ok co (by omega)) ?_
  rintro _ g1 ⟨⟨r, rfl, r1, r2, r3⟩, co1, on1⟩
  repeat (first | rw [kz_o] | rw [kz_r0] | simp -dsimp -implicitDefEqProofs only [go_sem, Nat.reduceBEq, Nat.reduceAdd, Nat.reduceLeDiff, Nat.reduceMul, Int.reduceLE, Int.reduceLT, Int.reduceBEq])
  refine gz_dec (fun h1 => ?_) (fun h1 => ?_)
  · repeat (first | rw [kz_o] | rw [kz_r0] | simp -dsimp -implicitDefEqProofs only [go_sem, Nat.reduceBEq, Nat.reduceAdd, Nat.reduceLeDiff, Nat.reduceMul, Int.reduceLE, Int.reduceLT, Int.reduceBEq, h1])
    refine wz_intro (text0_ok (n := 1) co1 (by omega)) ?_
    rintro _ g2 ⟨⟨u, rfl, hu⟩, co2, on2⟩
    have a1 : ((s.size + u.size : Nat) : Int) ≤ 9223372036854775807 := by omega
    repeat (first | rw [kz_o] | rw [kz_r0] | simp -dsimp -implicitDefEqProofs only [go_sem, Nat.reduceBEq, Nat.reduceAdd, Nat.reduceLeDiff, Nat.reduceMul, Int.reduceLE, Int.reduceLT, Int.reduceBEq, a1])
    exact ⟨⟨_, rfl, by rw [ByteArray.size_append]; omega⟩, co2, on1.trans on2⟩
  · repeat (first | rw [kz_o] | rw [kz_r0] | simp -dsimp -implicitDefEqProofs only [go_sem, Nat.reduceBEq, Nat.reduceAdd, Nat.reduceLeDiff, Nat.reduceMul, Int.reduceLE, Int.reduceLT, Int.reduceBEq, h1])
    refine gz_dec (fun h2 => ?_) (fun h2 => ?_)
    · have w1 : IntKind.i64.wrap ((s.size : Int) + 1) = ((s.size + 1 : Nat) : Int) := by rw [wrap_i64] <;> omega
      repeat (first | rw [kz_o] | rw [kz_r0] | simp -dsimp -implicitDefEqProofs only [go_sem, Nat.reduceBEq, Nat.reduceAdd, Nat.reduceLeDiff, Nat.reduceMul, Int.reduceLE, Int.reduceLT, Int.reduceBEq, h2, w1])
      refine wz_intro (below_ok co1 (by omega)) ?_
      rintro _ g2 ⟨⟨u, rfl, u1, u2, u3⟩, co2, on2⟩
      obtain ⟨k, rfl⟩ := Int.eq_ofNat_of_zero_le u1
      have := u2 (by omega)
      have b1 : (k : Int) ≤ (s.size : Int) := by omega
      repeat (first | rw [kz_o] | rw [kz_r0] | simp -dsimp -implicitDefEqProofs only [go_sem, Nat.reduceBEq, Nat.reduceAdd, Nat.reduceLeDiff, Nat.reduceMul, Int.reduceLE, Int.reduceLT, Int.reduceBEq, b1])
      exact ⟨⟨_, rfl, by rw [ByteArray.size_extract]; omega⟩, co2, on1.trans on2⟩
    · repeat (first | rw [kz_o] | rw [kz_r0] | simp -dsimp -implicitDefEqProofs only [go_sem, Nat.reduceBEq, Nat.reduceAdd, Nat.reduceLeDiff, Nat.reduceMul, Int.reduceLE, Int.reduceLT, Int.reduceBEq, h2])
      refine gz_dec (fun h3 => ?_) (fun h3 => ?_)
      rotate_left
      · repeat (first | rw [kz_o] | rw [kz_r0] | simp -dsimp -implicitDefEqProofs only [go_sem, Nat.reduceBEq, Nat.reduceAdd, Nat.reduceLeDiff, Nat.reduceMul, Int.reduceLE, Int.reduceLT, Int.reduceBEq, h3])
        refine gz_dec (fun h4 => ?_) (fun h4 => ?_)
        rotate_left
        · repeat (first | rw [kz_o] | rw [kz_r0] | simp -dsimp -implicitDefEqProofs only [go_sem, Nat.reduceBEq, Nat.reduceAdd, Nat.reduceLeDiff, Nat.reduceMul, Int.reduceLE, Int.reduceLT, Int.reduceBEq, h4])
          exact ⟨⟨_, rfl, by omega⟩, co1, on1⟩
        · repeat (first | rw [kz_o] | rw [kz_r0] | simp -dsimp -implicitDefEqProofs only [go_sem, Nat.reduceBEq, Nat.reduceAdd, Nat.reduceLeDiff, Nat.reduceMul, Int.reduceLE, Int.reduceLT, Int.reduceBEq, h4])
          refine gz_dec (fun h5 => ?_) (fun h5 => ?_)
          rotate_left
          · repeat (first | rw [kz_o] | rw [kz_r0] | simp -dsimp -implicitDefEqProofs only [go_sem, Nat.reduceBEq, Nat.reduceAdd, Nat.reduceLeDiff, Nat.reduceMul, Int.reduceLE, Int.reduceLT, Int.reduceBEq, h5])
            exact ⟨⟨_, rfl, by omega⟩, co1, on1⟩
          repeat (first | rw [kz_o] | rw [kz_r0] | simp -dsimp -implicitDefEqProofs only [go_sem, Nat.reduceBEq, Nat.reduceAdd, Nat.reduceLeDiff, Nat.reduceMul, Int.reduceLE, Int.reduceLT, Int.reduceBEq, h5])
          refine wz_intro (below_ok co1 (by omega)) ?_
          rintro _ g2 ⟨⟨u, rfl, u1, u2, u3⟩, co2, on2⟩
          obtain ⟨k, rfl⟩ := Int.eq_ofNat_of_zero_le u1
          have := u2 (by omega)
          have b1 : (k : Int) ≤ (s.size : Int) := by omega
          have w1 : IntKind.i64.wrap ((k : Int) + 1) = ((k + 1 : Nat) : Int) := by rw [wrap_i64] <;> omega
          have b2 : ((k + 1 : Nat) : Int) ≤ (s.size : Int) := by omega
          repeat (first | rw [kz_o] | rw [kz_r0] | simp -dsimp -implicitDefEqProofs only [go_sem, Nat.reduceBEq, Nat.reduceAdd, Nat.reduceLeDiff, Nat.reduceMul, Int.reduceLE, Int.reduceLT, Int.reduceBEq, b1])
          refine dq_intro [(0, []), (1, []), (2, []), (3, []), (6, []), (7, []), (8, []), (9, []), (4, [2, 9]), (5, []), (10, []), (11, [])] (by kernel_rfl) ?_
          repeat (first | rw [kz_o] | rw [kz_r0] | simp -dsimp -implicitDefEqProofs only [go_sem, Nat.reduceBEq, Nat.reduceAdd, Nat.reduceLeDiff, Nat.reduceMul, Int.reduceLE, Int.reduceLT, Int.reduceBEq, b1, w1, b2])
          refine wz_intro (text0_ok (n := 1) co2 (by omega)) ?_
          rintro _ g3 ⟨⟨t, rfl, ht⟩, co3, on3⟩
          have a1 : (((s.extract 0 k).size + t.size : Nat) : Int) ≤ 9223372036854775807 := by rw [ByteArray.size_extract]; omega
          have a2 : (((s.extract 0 k ++ t).size + (s.extract (k + 1) s.size).size : Nat) : Int) ≤ 9223372036854775807 := by rw [ByteArray.size_append, ByteArray.size_extract, ByteArray.size_extract]; omega
          repeat (first | rw [kz_o] | rw [kz_r0] | simp -dsimp -implicitDefEqProofs only [go_sem, Nat.reduceBEq, Nat.reduceAdd, Nat.reduceLeDiff, Nat.reduceMul, Int.reduceLE, Int.reduceLT, Int.reduceBEq, w1, b1, b2, a1, a2])
          exact ⟨⟨_, rfl, by rw [ByteArray.size_append, ByteArray.size_append, ByteArray.size_extract, ByteArray.size_extract]; omega⟩, co3, on1.trans (on2.trans on3)⟩
      · repeat (first | rw [kz_o] | rw [kz_r0] | simp -dsimp -implicitDefEqProofs only [go_sem, Nat.reduceBEq, Nat.reduceAdd, Nat.reduceLeDiff, Nat.reduceMul, Int.reduceLE, Int.reduceLT, Int.reduceBEq, h3])
        refine gz_dec (fun h5 => ?_) (fun h5 => ?_)
        rotate_left
        · repeat (first | rw [kz_o] | rw [kz_r0] | simp -dsimp -implicitDefEqProofs only [go_sem, Nat.reduceBEq, Nat.reduceAdd, Nat.reduceLeDiff, Nat.reduceMul, Int.reduceLE, Int.reduceLT, Int.reduceBEq, h5])
          exact ⟨⟨_, rfl, by omega⟩, co1, on1⟩
        repeat (first | rw [kz_o] | rw [kz_r0] | simp -dsimp -implicitDefEqProofs only [go_sem, Nat.reduceBEq, Nat.reduceAdd, Nat.reduceLeDiff, Nat.reduceMul, Int.reduceLE, Int.reduceLT, Int.reduceBEq, h5])
        refine wz_intro (below_ok co1 (by omega)) ?_
        rintro _ g2 ⟨⟨u, rfl, u1, u2, u3⟩, co2, on2⟩
        obtain ⟨k, rfl⟩ := Int.eq_ofNat_of_zero_le u1
        have := u2 (by omega)
        have b1 : (k : Int) ≤ (s.size : Int) := by omega
        have w1 : IntKind.i64.wrap ((k : Int) + 1) = ((k + 1 : Nat) : Int) := by rw [wrap_i64] <;> omega
        have b2 : ((k + 1 : Nat) : Int) ≤ (s.size : Int) := by omega
        repeat (first | rw [kz_o] | rw [kz_r0] | simp -dsimp -implicitDefEqProofs only [go_sem, Nat.reduceBEq, Nat.reduceAdd, Nat.reduceLeDiff, Nat.reduceMul, Int.reduceLE, Int.reduceLT, Int.reduceBEq, b1])
        refine dq_intro [(0, []), (1, []), (2, []), (3, []), (6, []), (7, []), (8, []), (9, []), (4, [2, 9]), (5, []), (10, []), (11, [])] (by kernel_rfl) ?_
        repeat (first | rw [kz_o] | rw [kz_r0] | simp -dsimp -implicitDefEqProofs only [go_sem, Nat.reduceBEq, Nat.reduceAdd, Nat.reduceLeDiff, Nat.reduceMul, Int.reduceLE, Int.reduceLT, Int.reduceBEq, b1, w1, b2])
        refine wz_intro (text0_ok (n := 1) co2 (by omega)) ?_
        rintro _ g3 ⟨⟨t, rfl, ht⟩, co3, on3⟩
        have a1 : (((s.extract 0 k).size + t.size : Nat) : Int) ≤ 9223372036854775807 := by rw [ByteArray.size_extract]; omega
        have a2 : (((s.extract 0 k ++ t).size + (s.extract (k + 1) s.size).size : Nat) : Int) ≤ 9223372036854775807 := by rw [ByteArray.size_append, ByteArray.size_extract, ByteArray.size_extract]; omega
        repeat (first | rw [kz_o] | rw [kz_r0] | simp -dsimp -implicitDefEqProofs only [go_sem, Nat.reduceBEq, Nat.reduceAdd, Nat.reduceLeDiff, Nat.reduceMul, Int.reduceLE, Int.reduceLT, Int.reduceBEq, w1, b1, b2, a1, a2])
        exact ⟨⟨_, rfl, by rw [ByteArray.size_append, ByteArray.size_append, ByteArray.size_extract, ByteArray.size_extract]; omega⟩, co3, on1.trans (on2.trans on3)⟩
end Go.Bi
