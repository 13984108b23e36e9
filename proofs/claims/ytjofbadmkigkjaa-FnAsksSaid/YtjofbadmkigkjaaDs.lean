/- Drawn texts and drawn configs. -/
import Derived.Test.YtjofbadmkigkjaaDr
import Derived.Test.YtjofbadmkigkjaaDb
set_option linter.unusedSimpArgs false
set_option linter.unusedVariables false
set_option maxRecDepth 20000
namespace Go.Bi
open Go.Proofs
open Go.Ai (wrap_i64 wrap_u64 wrap_u8)
variable {W0 : World} {P : Program}
set_option maxHeartbeats 1000000
def cU (z : Int) : X := .raw (.int .u8 z)
def OwnU (N : Nat) (g : H2) (v : X) (zs : List Int) : Prop := Own N g v 1 zs.length (zs.map cU)
theorem bytes_cU : ∀ {zs : List Int}, bytesX (zs.map cU) = some (zs.map fun z => UInt8.ofNat z.toNat)
  | [] => rfl
  | z :: zs => by simp only [List.map_cons, cU, by_cons, bytes_cU, byO]
theorem append_u8 {D : Nat → Option (List Nat)} {g : H2} {K : KT} {t u U y N : Nat} {xs : List Int} {x : X} {f : Adr} {s : Int} (he : Go.Ai.elt? P t = some (U, 1, y)) (hz : Go.Ai.zr? P U = some [.int .u8 0]) (hu : Go.Ai.cls? P u = some .sl)
    (hx : OwnU N g x xs) (hN0 : N ≤ hn g .mk) (hn0 : (xs.length + 1) * (y + 1) ≤ Go.Ai.most)
    (hk : ∀ v' g', OwnU N g' v' (xs ++ [s]) → hn g .mk ≤ hn g' .mk → (∀ g0 : H2, hn g0 .mk ≤ N → g0.le g → g0.le g') → (∀ c, c < hn g .mk → blockOf x ≠ some c → hg g' c .mk = hg g c .mk) → kz K v' g' .mk) :
    az (biz P g .append [t, u] [x, .sl f 1 [[.v (.int .u8 s)]]] .mk) K .mk := by
  refine append_own (z := 0) (m := 1) (news := [cU s]) (N := N) he hz rfl hu hx hN0 rfl rfl rfl hn0 ?_
  intro v' g' o
  refine hk v' g' ?_
  unfold OwnU
  rw [List.map_append, List.length_append]
  exact o
theorem append_s1 {D : Nat → Option (List Nat)} {g : H2} {K : KT} {t u U y N : Nat} {xs : List ByteArray} {x : X} {f : Adr} {s : ByteArray} (he : Go.Ai.elt? P t = some (U, 1, y)) (hz : Go.Ai.zr? P U = some [.string ⟨#[]⟩]) (hu : Go.Ai.cls? P u = some .sl)
    (hx : OwnS N g x xs) (hN0 : N ≤ hn g .mk) (hn0 : (xs.length + 1) * (y + 1) ≤ Go.Ai.most)
    (hk : ∀ v' g', OwnS N g' v' (xs ++ [s]) → hn g .mk ≤ hn g' .mk → (∀ g0 : H2, hn g0 .mk ≤ N → g0.le g → g0.le g') → (∀ c, c < hn g .mk → blockOf x ≠ some c → hg g' c .mk = hg g c .mk) → kz K v' g' .mk) :
    az (biz P g .append [t, u] [x, .sl f 1 [[.v (.string s)]]] .mk) K .mk := by
  refine append_own (z := 0) (m := 1) (news := [cS s]) (N := N) he hz rfl hu hx hN0 rfl rfl rfl hn0 ?_
  intro v' g' o
  refine hk v' g' ?_
  unfold OwnS
  rw [List.map_append, List.length_append]
  exact o
theorem own_wide {N N' z n : Nat} {g : H2} {v : X} {cs : List X} (o : Own N g v z n cs) (h : N' ≤ N) : Own N' g v z n cs := by
  obtain ⟨h1, h2⟩ := o
  refine ⟨h1, h2.imp_right ?_⟩
  rintro ⟨q, e1, e2, e3⟩
  exact ⟨q, e1, Nat.le_trans h e2, e3⟩
theorem own_cell {N z n : Nat} {g : H2} {v : X} {cs : List X} (o : Own N g v z n cs) : cellsX v = some [v] ∧ okX v = true ∧ isTpX v = false := by
  obtain ⟨_, h⟩ := o
  rcases h with ⟨rfl, _⟩ | ⟨b, rfl, _⟩ <;> exact ⟨rfl, rfl, rfl⟩
theorem own_apart {N z n c : Nat} {g : H2} {v : X} {cs : List X} (o : Own N g v z n cs) (hc : c < N) : blockOf v ≠ some c := by
  obtain ⟨_, h⟩ := o
  rcases h with ⟨rfl, _⟩ | ⟨b, rfl, h1, _⟩
  · intro e; cases e
  · intro e; simp only [blockOf, Option.some.injEq] at e; omega
theorem Own.up {N z n m : Nat} {g : H2} {v : X} {cs : List X} (o : Own N g v z n cs) (hm : hn g .mk ≤ m) : Own N (g.up m) v z n cs := o.keep (le_up (H2.le.refl _) hm)
theorem own_only {N z n b : Nat} {g g' : H2} {v : X} {cs : List X} (o : Own N g v z n cs) (l : OnlyR g g' b) (hb : b < N) : Own N g' v z n cs := by
  obtain ⟨h1, h2⟩ := o
  refine ⟨h1, h2.imp_right ?_⟩
  rintro ⟨q, e1, e2, e3, e4⟩
  exact ⟨q, e1, e2, Nat.lt_of_lt_of_le e3 l.1, by rw [l.2 q e3 (by omega)]; exact e4⟩
theorem text_ok {b n : Nat} {f : Adr} {bs : List Int} {g : H2} (co : Cur g b f bs) (hn0 : n ≤ 1048576) : DrawC Try.prog W0 118 [.raw (.pointer (some ⟨b, 0, none⟩)), .raw (.int .i64 n)] g b f bs fun v => ∃ s : ByteArray, v = .raw (.string s) ∧ s.size = n := by
  refine start (P := Try.prog) [[0, 1], [0, 1], [0, 1, 5], [0, 1, 5, 6], [0, 1, 5, 6], [0, 1, 5, 6], [5]] (by kernel_rfl) Try.func118 rfl (by decide) (by decide +kernel) (rs := [.tmp 4]) rfl rfl (Nat.le_of_ble_eq_true rfl) ?_
  intro wf
  repeat (first | rw [kz_o] | rw [kz_r0] | simp -dsimp -implicitDefEqProofs only [go_sem, Nat.reduceBEq, Nat.reduceAdd, Nat.reduceLeDiff, Nat.reduceMul, Int.reduceLE, Int.reduceLT, Int.reduceBEq])
  refine lz_keep [0, 1] (fun m e h' => ∃ (i : Nat) (zs : List Int) (v : X), look e 6 .mk = .raw (.int .i64 (i : Nat)) ∧ look e 5 .mk = v ∧ m + i = n ∧ zs.length = i ∧ OwnU (hn g .mk) h' v zs ∧ Cur h' b f bs ∧ OnlyR g h' b) n ?_ ?_
  · exact ⟨0, [], _, by simp -dsimp -implicitDefEqProofs only [go_sem, Nat.reduceBEq, Nat.reduceAdd, Nat.reduceLeDiff, Nat.reduceMul, Int.reduceLE, Int.reduceLT, Int.reduceBEq], by simp -dsimp -implicitDefEqProofs only [go_sem, Nat.reduceBEq, Nat.reduceAdd, Nat.reduceLeDiff, Nat.reduceMul, Int.reduceLE, Int.reduceLT, Int.reduceBEq] <;> rfl, by omega, rfl, Own.new (Nat.le_refl _) rfl, co.le (le_push (H2.le.refl _)), OnlyR.refl.push⟩
  · rintro m e h' hks ⟨i, zs, v, e6, e5, hm, hz, ow, co1, on1⟩
    simp -dsimp -implicitDefEqProofs only [go_sem, Nat.reduceBEq, Nat.reduceAdd, Nat.reduceLeDiff, Nat.reduceMul, Int.reduceLE, Int.reduceLT, Int.reduceBEq] at hks
    by_cases h1 : (i : Int) < (n : Int)
    · repeat (first | rw [kz_o] | rw [kz_r0] | simp -dsimp -implicitDefEqProofs only [go_sem, Nat.reduceBEq, Nat.reduceAdd, Nat.reduceLeDiff, Nat.reduceMul, Int.reduceLE, Int.reduceLT, Int.reduceBEq, hks, e6, e5, h1])
      refine wz_intro (byte_ok co1) ?_
      rintro _ g2 ⟨⟨r, rfl, r1, r2⟩, co2, on2⟩
      repeat (first | rw [kz_o] | rw [kz_r0] | simp -dsimp -implicitDefEqProofs only [go_sem, Nat.reduceBEq, Nat.reduceAdd, Nat.reduceLeDiff, Nat.reduceMul, Int.reduceLE, Int.reduceLT, Int.reduceBEq])
      refine wz_intro (pickInt_ok (zs := [97, 98, 99, 97, 98, r]) (co2.le (by repeat (first | exact H2.le.refl _ | apply le_push | refine le_up ?_ (Nat.le_succ _)))) (by simp) (by simp)) ?_
      rintro _ g3 ⟨⟨q, rfl, hq⟩, co3, on3⟩
      have w1 : IntKind.i64.wrap ((i : Int) + 1) = ((i + 1 : Nat) : Int) := by rw [wrap_i64] <;> omega
      have on3' : OnlyR g g3 b := by
        refine on1.trans (OnlyR.trans on2 (OnlyR.trans (g' := g2.up (hn g2 .mk + 1)) (OnlyR.refl.up (Nat.le_succ _)) ?_))
        exact on3
      have ow3 : OwnU (hn g .mk) g3 v zs := own_only (own_only (own_only ow on2 co.1) (OnlyR.refl.up (Nat.le_succ _)) co.1) on3 co.1
      repeat (first | rw [kz_o] | rw [kz_r0] | simp -dsimp -implicitDefEqProofs only [go_sem, Nat.reduceBEq, Nat.reduceAdd, Nat.reduceLeDiff, Nat.reduceMul, Int.reduceLE, Int.reduceLT, Int.reduceBEq])
      refine append_u8 (P := Try.prog) (D := fun _ => none) (N := hn g .mk) Go.Ai.ty_el22 Go.Ai.ty_zr5 Go.Ai.ty_cl22 (Own.up ow3 (Nat.le_succ _)) (by rw [hn_up]; have := on3'.1; omega) (by rw [hz]; have : Go.Ai.most = 1099511627776 := rfl; omega) ?_
      intro v4 g4 ow4 nn4 le4 on4
      have onb : OnlyR g g4 b := ⟨by have := on3'.1; simp only [hn_up] at nn4; omega, fun c h1 h2 => (on4 c (by rw [hn_up]; have := on3'.1; omega) (own_apart ow3 h1)).trans (on3'.2 c h1 h2)⟩
      have co4 : Cur g4 b f bs := ⟨by have := on3'.1; have := co.1; simp only [hn_up] at nn4; omega, co.2.1, by
        obtain ⟨q1, q2, q3, q4⟩ := co3.2.2
        exact ⟨q1, q2, (on4 b (by rw [hn_up]; have := co3.1; omega) (own_apart ow3 co.1)).trans q3, q4⟩⟩
      repeat (first | rw [kz_o] | rw [kz_r0] | simp -dsimp -implicitDefEqProofs only [go_sem, Nat.reduceBEq, Nat.reduceAdd, Nat.reduceLeDiff, Nat.reduceMul, Int.reduceLE, Int.reduceLT, Int.reduceBEq, hks, e6, w1])
      exact nx_keep (m - 1) (by omega) (by simp -dsimp -implicitDefEqProofs only [go_sem, Nat.reduceBEq, Nat.reduceAdd, Nat.reduceLeDiff, Nat.reduceMul, Int.reduceLE, Int.reduceLT, Int.reduceBEq, hks]) ⟨i + 1, _, v4, by simp -dsimp -implicitDefEqProofs only [go_sem, Nat.reduceBEq, Nat.reduceAdd, Nat.reduceLeDiff, Nat.reduceMul, Int.reduceLE, Int.reduceLT, Int.reduceBEq, w1], by simp -dsimp -implicitDefEqProofs only [go_sem, Nat.reduceBEq, Nat.reduceAdd, Nat.reduceLeDiff, Nat.reduceMul, Int.reduceLE, Int.reduceLT, Int.reduceBEq], by omega, by simp [hz], ow4, co4, onb⟩
    · repeat (first | rw [kz_o] | rw [kz_r0] | simp -dsimp -implicitDefEqProofs only [go_sem, Nat.reduceBEq, Nat.reduceAdd, Nat.reduceLeDiff, Nat.reduceMul, Int.reduceLE, Int.reduceLT, Int.reduceBEq, hks, e6, e5, h1])
      have hsrc := src_own (g := h') ow
      rw [cv_src (n := zs.length) (l := zs.map cU) Go.Ai.ty_cl22 Go.Ai.ty_cl9 (by simp -dsimp -implicitDefEqProofs only [go_sem, Nat.reduceBEq, Nat.reduceAdd, Nat.reduceLeDiff, Nat.reduceMul, Int.reduceLE, Int.reduceLT, Int.reduceBEq]) (by simp -dsimp -implicitDefEqProofs only [go_sem, Nat.reduceBEq, Nat.reduceAdd, Nat.reduceLeDiff, Nat.reduceMul, Int.reduceLE, Int.reduceLT, Int.reduceBEq]) (by simp -dsimp -implicitDefEqProofs only [go_sem, Nat.reduceBEq, Nat.reduceAdd, Nat.reduceLeDiff, Nat.reduceMul, Int.reduceLE, Int.reduceLT, Int.reduceBEq]) hsrc, bytes_cU]
      repeat (first | rw [kz_o] | rw [kz_r0] | simp -dsimp -implicitDefEqProofs only [go_sem, Nat.reduceBEq, Nat.reduceAdd, Nat.reduceLeDiff, Nat.reduceMul, Int.reduceLE, Int.reduceLT, Int.reduceBEq])
      exact ⟨⟨_, rfl, by simp [ByteArray.size]; omega⟩, co1, on1⟩
/-- A drawn config is right. -/
def CfgT (N : Nat) (g : H2) (x : X) (c : LConfig) : Prop := cfgOk c = true ∧ c.top ≤ 5 ∧ ∃ v, x = .st [.raw (.int .i64 c.top), .raw (.int .i64 c.seed), .raw (.int .i64 c.new), v] ∧ OwnS N g v c.stops
theorem config_ok {b : Nat} {f : Adr} {bs : List Int} {g : H2} (co : Cur g b f bs) : WC2 Try.prog W0 119 [.raw (.pointer (some ⟨b, 0, none⟩))] g (fun x g' => (∃ c, CfgT (hn g .mk) g' x c) ∧ Cur g' b f bs ∧ OnlyR g g' b) := by
  refine start (P := Try.prog) [[0], [0, 2], [0, 2, 3], [0, 2, 3, 4], [0, 2, 3, 4], [0, 2, 3, 4], [2, 3]] (by kernel_rfl) Try.func119 rfl (by decide) (by decide +kernel) (rs := [.cell 2 26]) rfl rfl (Nat.le_of_ble_eq_true rfl) ?_
  intro wf
  repeat (first | rw [kz_o] | rw [kz_r0] | simp -dsimp -implicitDefEqProofs only [go_sem, Nat.reduceBEq, Nat.reduceAdd, Nat.reduceLeDiff, Nat.reduceMul, Int.reduceLE, Int.reduceLT, Int.reduceBEq])
  refine wz_intro (below_ok (co.le (by repeat (first | exact H2.le.refl _ | apply le_push | refine le_up ?_ (Nat.le_succ _)))) (by omega)) ?_
  rintro _ g1 ⟨⟨r, rfl, r1, r2, r3⟩, co1, on1⟩
  repeat (first | rw [kz_o] | rw [kz_r0] | simp -dsimp -implicitDefEqProofs only [go_sem, Nat.reduceBEq, Nat.reduceAdd, Nat.reduceLeDiff, Nat.reduceMul, Int.reduceLE, Int.reduceLT, Int.reduceBEq])
  refine wz_intro (below_ok co1 (by omega)) ?_
  rintro _ g2 ⟨⟨s, rfl, s1, s2, s3⟩, co2, on2⟩
  repeat (first | rw [kz_o] | rw [kz_r0] | simp -dsimp -implicitDefEqProofs only [go_sem, Nat.reduceBEq, Nat.reduceAdd, Nat.reduceLeDiff, Nat.reduceMul, Int.reduceLE, Int.reduceLT, Int.reduceBEq])
  refine wz_intro (below_ok co2 (by omega)) ?_
  rintro _ g3 ⟨⟨t, rfl, t1, t2, t3⟩, co3, on3⟩
  repeat (first | rw [kz_o] | rw [kz_r0] | simp -dsimp -implicitDefEqProofs only [go_sem, Nat.reduceBEq, Nat.reduceAdd, Nat.reduceLeDiff, Nat.reduceMul, Int.reduceLE, Int.reduceLT, Int.reduceBEq])
  have w1 : IntKind.i64.wrap (1 + r) = 1 + r := by rw [wrap_i64] <;> omega
  have w2 : IntKind.i64.wrap (1 + t) = 1 + t := by rw [wrap_i64] <;> omega
  have hb := co.1
  have O3 : OnlyR g g3 b := OnlyR.trans (OnlyR.refl.push) (on1.trans (on2.trans on3))
  have N3 := O3.1
  have hN : hn g .mk < hn g3 .mk := by have := on1.1; have := on2.1; have := on3.1; simp only [hn_push] at *; omega
  have row2 : ∃ k, hg g3 (hn g .mk) .mk = some ⟨4, k⟩ ∧ k.length = 4 := by
    refine ⟨_, (on3.2 (hn g .mk) (by have := on1.1; have := on2.1; simp only [hn_push] at *; omega) (by omega)).trans ((on2.2 (hn g .mk) (by have := on1.1; simp only [hn_push] at *; omega) (by omega)).trans ((on1.2 (hn g .mk) (by simp only [hn_push]; omega) (by omega)).trans (by simp -dsimp -implicitDefEqProofs only [go_sem, Nat.reduceBEq, Nat.reduceAdd, Nat.reduceLeDiff, Nat.reduceMul, Int.reduceLE, Int.reduceLT, Int.reduceBEq, hoo] <;> rfl))), rfl⟩
  obtain ⟨k2, row2, k2l⟩ := row2
  obtain ⟨c0, c1, c2, c3, rfl⟩ : ∃ c0 c1 c2 c3, k2 = [c0, c1, c2, c3] := by
    match k2, k2l with
    | [c0, c1, c2, c3], _ => exact ⟨c0, c1, c2, c3, rfl⟩
  repeat (first | rw [kz_o] | rw [kz_r0] | simp -dsimp -implicitDefEqProofs only [go_sem, Nat.reduceBEq, Nat.reduceAdd, Nat.reduceLeDiff, Nat.reduceMul, Int.reduceLE, Int.reduceLT, Int.reduceBEq, w1, w2, hoo])
  refine lz_keep [0, 2, 3] (fun m e h' => ∃ (i : Nat) (ss : List ByteArray) (v : X), look e 4 .mk = .raw (.int .i64 (i : Nat)) ∧ hg h' (hn g3 .mk) .mk = some ⟨4, [.raw (.int .i64 (1 + r)), .raw (.int .i64 s), .raw (.int .i64 (1 + t)), v]⟩ ∧ OwnS (hn g3 .mk + 1) h' v ss ∧ ss.length = i ∧ (∀ x ∈ ss, 1 ≤ x.size ∧ x.size ≤ 2) ∧ m + i = 2 ∧ Cur h' b f bs ∧ OnlyR g h' b ∧ hg h' (hn g .mk) .mk = some ⟨4, [c0, c1, c2, c3]⟩ ∧ hn g3 .mk < hn h' .mk) 2 ?_ ?_
  · have hne : (hn g .mk == hn g3 .mk) = false := by simp; omega
    refine ⟨0, [], .raw (.slice none 0 0), by simp -dsimp -implicitDefEqProofs only [go_sem, Nat.reduceBEq, Nat.reduceAdd, Nat.reduceLeDiff, Nat.reduceMul, Int.reduceLE, Int.reduceLT, Int.reduceBEq], by simp -dsimp -implicitDefEqProofs only [go_sem, Nat.reduceBEq, Nat.reduceAdd, Nat.reduceLeDiff, Nat.reduceMul, Int.reduceLE, Int.reduceLT, Int.reduceBEq, hoo, w1, w2], Own.nil, rfl, by simp, by omega, co3.le (le_push (H2.le.refl _)), O3.push, by simp -dsimp -implicitDefEqProofs only [go_sem, Nat.reduceBEq, Nat.reduceAdd, Nat.reduceLeDiff, Nat.reduceMul, Int.reduceLE, Int.reduceLT, Int.reduceBEq, hne, row2], by simp -dsimp -implicitDefEqProofs only [go_sem, Nat.reduceBEq, Nat.reduceAdd, Nat.reduceLeDiff, Nat.reduceMul, Int.reduceLE, Int.reduceLT, Int.reduceBEq] <;> omega⟩
  · rintro m e h' hks ⟨i, ss, v, e4, row3, ow, hl, hsz, hm, co4, on4, row2', hlt⟩
    simp -dsimp -implicitDefEqProofs only [go_sem, Nat.reduceBEq, Nat.reduceAdd, Nat.reduceLeDiff, Nat.reduceMul, Int.reduceLE, Int.reduceLT, Int.reduceBEq] at hks
    repeat (first | rw [kz_o] | rw [kz_r0] | simp -dsimp -implicitDefEqProofs only [go_sem, Nat.reduceBEq, Nat.reduceAdd, Nat.reduceLeDiff, Nat.reduceMul, Int.reduceLE, Int.reduceLT, Int.reduceBEq, hks, e4])
    refine wz_intro (below_ok co4 (by omega)) ?_
    rintro _ g5 ⟨⟨x, rfl, x1, x2, x3⟩, co5, on5⟩
    repeat (first | rw [kz_o] | rw [kz_r0] | simp -dsimp -implicitDefEqProofs only [go_sem, Nat.reduceBEq, Nat.reduceAdd, Nat.reduceLeDiff, Nat.reduceMul, Int.reduceLE, Int.reduceLT, Int.reduceBEq, hks, e4])
    refine wz_intro (below_ok co5 (by omega)) ?_
    rintro _ g6 ⟨⟨y, rfl, y1, y2, y3⟩, co6, on6⟩
    have on56 := on5.trans on6
    have hxy : 0 ≤ x * y ∧ x * y ≤ 2 := by
      have a1 : x = 0 ∨ x = 1 ∨ x = 2 := by have := x2 (by omega); omega
      have a2 : y = 0 ∨ y = 1 := by have := y2 (by omega); omega
      rcases a1 with rfl | rfl | rfl <;> rcases a2 with rfl | rfl <;> simp
    have w3 : IntKind.i64.wrap (x * y) = x * y := by rw [wrap_i64] <;> omega
    have row36 := (on56.2 (hn g3 .mk) hlt (by omega)).trans row3
    have row26 := (on56.2 (hn g .mk) (by omega) (by omega)).trans row2'
    have ow6 : OwnS (hn g3 .mk + 1) g6 v ss := own_only ow on56 (by omega)
    repeat (first | rw [kz_o] | rw [kz_r0] | simp -dsimp -implicitDefEqProofs only [go_sem, Nat.reduceBEq, Nat.reduceAdd, Nat.reduceLeDiff, Nat.reduceMul, Int.reduceLE, Int.reduceLT, Int.reduceBEq, hks, e4, w3])
    refine gz_dec (fun h7 => ?_) (fun h7 => ?_)
    · repeat (first | rw [kz_o] | rw [kz_r0] | simp -dsimp -implicitDefEqProofs only [go_sem, Nat.reduceBEq, Nat.reduceAdd, Nat.reduceLeDiff, Nat.reduceMul, Int.reduceLE, Int.reduceLT, Int.reduceBEq, hks, e4, w3])
      refine dq_intro [(0, []), (1, []), (2, []), (3, []), (4, [1]), (5, []), (6, [1]), (7, [1]), (8, []), (9, []), (10, [])] (by kernel_rfl) ?_
      repeat (first | rw [kz_o] | rw [kz_r0] | simp -dsimp -implicitDefEqProofs only [go_sem, Nat.reduceBEq, Nat.reduceAdd, Nat.reduceLeDiff, Nat.reduceMul, Int.reduceLE, Int.reduceLT, Int.reduceBEq, hks, e4, w3, row36, hoo])
      refine wz_intro (below_ok co6 (by omega)) ?_
      rintro _ g7 ⟨⟨z, rfl, z1, z2, z3⟩, co7, on7⟩
      have row37 := (on7.2 (hn g3 .mk) (by have := on56.1; omega) (by omega)).trans row36
      have row27 := (on7.2 (hn g .mk) (by have := on56.1; omega) (by omega)).trans row26
      have ow7 : OwnS (hn g3 .mk + 1) g7 v ss := own_only ow6 on7 (by omega)
      have hz := z2 (by omega)
      have w4 : IntKind.i64.wrap (1 + z) = ((1 + z.toNat : Nat) : Int) := by rw [wrap_i64] <;> omega
      rw [kz_r]
      refine ⟨by simp -dsimp -implicitDefEqProofs only [go_sem, Nat.reduceBEq, Nat.reduceAdd, Nat.reduceLeDiff, Nat.reduceMul, Int.reduceLE, Int.reduceLT, Int.reduceBEq, row37], ?_⟩
      repeat (first | rw [kz_o] | rw [kz_r0] | simp -dsimp -implicitDefEqProofs only [go_sem, Nat.reduceBEq, Nat.reduceAdd, Nat.reduceLeDiff, Nat.reduceMul, Int.reduceLE, Int.reduceLT, Int.reduceBEq, w4])
      refine wz_intro (text_ok co7 (by omega)) ?_
      rintro _ g8 ⟨⟨u, rfl, hu⟩, co8, on8⟩
      have row38 := (on8.2 (hn g3 .mk) (by have := on56.1; have := on7.1; omega) (by omega)).trans row37
      have row28 := (on8.2 (hn g .mk) (by have := on56.1; have := on7.1; omega) (by omega)).trans row27
      have ow8 : OwnS (hn g3 .mk + 1) g8 v ss := own_only ow7 on8 (by omega)
      have nn8 : hn g3 .mk < hn g8 .mk := by have := on56.1; have := on7.1; have := on8.1; omega
      rw [kz_r]
      refine ⟨by simp -dsimp -implicitDefEqProofs only [go_sem, Nat.reduceBEq, Nat.reduceAdd, Nat.reduceLeDiff, Nat.reduceMul, Int.reduceLE, Int.reduceLT, Int.reduceBEq, row38], ?_⟩
      repeat (first | rw [kz_o] | rw [kz_r0] | simp -dsimp -implicitDefEqProofs only [go_sem, Nat.reduceBEq, Nat.reduceAdd, Nat.reduceLeDiff, Nat.reduceMul, Int.reduceLE, Int.reduceLT, Int.reduceBEq, row38])
      refine append_s1 (P := Try.prog) (D := fun _ => none) (N := hn g3 .mk + 1) Go.Ai.ty_el24 Go.Ai.ty_zr9 Go.Ai.ty_cl24 (Own.up ow8 (Nat.le_succ _)) (by rw [hn_up]; omega) (by rw [hl]; have : Go.Ai.most = 1099511627776 := rfl; omega) ?_
      intro v9 g9 ow9 nn9 le9 on9
      simp only [hn_up] at nn9
      have row39 := (on9 (hn g3 .mk) (by rw [hn_up]; omega) (own_apart ow8 (by omega))).trans row38
      have row29 := (on9 (hn g .mk) (by rw [hn_up]; omega) (own_apart ow8 (by omega))).trans row28
      replace row39 : hg g9 (hn g3 .mk) .mk = _ := row39
      replace row29 : hg g9 (hn g .mk) .mk = _ := row29
      have oc := own_cell ow9
      have on99 : OnlyR g g9 b := ⟨by have := on4.1; have := on56.1; have := on7.1; have := on8.1; omega, fun c h1 h2 => (on9 c (by rw [hn_up]; omega) (own_apart ow8 (by omega))).trans ((on4.trans (on56.trans (on7.trans on8))).2 c h1 h2)⟩
      have co9 : Cur g9 b f bs := ⟨by omega, co8.2.1, by
        obtain ⟨q1, q2, q3, q4⟩ := co8.2.2
        exact ⟨q1, q2, (on9 b (by rw [hn_up]; omega) (own_apart ow8 (by omega))).trans q3, q4⟩⟩
      have w5 : IntKind.i64.wrap ((i : Int) + 1) = ((i + 1 : Nat) : Int) := by rw [wrap_i64] <;> omega
      have hne : (hn g .mk == hn g3 .mk) = false := by simp; omega
      repeat (first | rw [kz_o] | rw [kz_r0] | simp -dsimp -implicitDefEqProofs only [go_sem, Nat.reduceBEq, Nat.reduceAdd, Nat.reduceLeDiff, Nat.reduceMul, Int.reduceLE, Int.reduceLT, Int.reduceBEq, hks, e4, row39, oc, hoo, w5])
      refine nx_keep (m - 1) (by omega) (by simp -dsimp -implicitDefEqProofs only [go_sem, Nat.reduceBEq, Nat.reduceAdd, Nat.reduceLeDiff, Nat.reduceMul, Int.reduceLE, Int.reduceLT, Int.reduceBEq, hks]) ⟨i + 1, ss ++ [u], v9, by simp -dsimp -implicitDefEqProofs only [go_sem, Nat.reduceBEq, Nat.reduceAdd, Nat.reduceLeDiff, Nat.reduceMul, Int.reduceLE, Int.reduceLT, Int.reduceBEq, w5], by simp -dsimp -implicitDefEqProofs only [go_sem, Nat.reduceBEq, Nat.reduceAdd, Nat.reduceLeDiff, Nat.reduceMul, Int.reduceLE, Int.reduceLT, Int.reduceBEq, hoo], own_only (b := hn g3 .mk) ow9 OnlyR.refl.set (by omega), by simp [hl], ?_, by omega, co9.only (b' := hn g3 .mk) OnlyR.refl.set (by omega), ?_, by simp -dsimp -implicitDefEqProofs only [go_sem, Nat.reduceBEq, Nat.reduceAdd, Nat.reduceLeDiff, Nat.reduceMul, Int.reduceLE, Int.reduceLT, Int.reduceBEq, hne, row29], by simp -dsimp -implicitDefEqProofs only [go_sem, Nat.reduceBEq, Nat.reduceAdd, Nat.reduceLeDiff, Nat.reduceMul, Int.reduceLE, Int.reduceLT, Int.reduceBEq] <;> omega⟩
      · intro q hq
        rcases List.mem_append.1 hq with hq | hq
        · exact hsz q hq
        · simp at hq; subst hq; omega
      · exact ⟨on99.1, fun c h1 h2 => by rw [hg_set, show (c == hn g3 .mk) = false by simp; omega]; exact on99.2 c h1 h2⟩
    · have oc := own_cell ow6
      repeat (first | rw [kz_o] | rw [kz_r0] | simp -dsimp -implicitDefEqProofs only [go_sem, Nat.reduceBEq, Nat.reduceAdd, Nat.reduceLeDiff, Nat.reduceMul, Int.reduceLE, Int.reduceLT, Int.reduceBEq, hks, e4, w3, row36, row26, hoo, oc])
      refine ⟨⟨⟨1 + r, s, 1 + t, ss⟩, ?_, by have := r2 (by omega); simp only; omega, v, rfl, own_wide (own_only (b := hn g .mk) ow6 OnlyR.refl.set (by omega)) (by omega)⟩, co6.only (b' := hn g .mk) OnlyR.refl.set (by omega), ?_⟩
      · have a1 := r2 (by omega)
        have a2 := s2 (by omega)
        have a3 := t2 (by omega)
        simp only [cfgOk, inI, stopsOk, Bool.and_eq_true, decide_eq_true_eq, List.all_eq_true]
        refine ⟨⟨by omega, by omega⟩, ⟨by omega, by omega⟩, ⟨by omega, by omega⟩, by omega, fun q hq => ?_⟩
        have := hsz q hq; omega
      · have on6' := on4.trans on56
        exact ⟨on6'.1, fun c h1 h2 => by rw [hg_set, show (c == hn g .mk) = false by simp; omega]; exact on6'.2 c h1 h2⟩
end Go.Bi
