/- Own lemmas that the theorem of this claim needs: the abstract machine and walks of functions. -/
import Derived.Test.YtegpkkefbmcddaaGreatQnLawAN
set_option linter.unusedSimpArgs false
set_option linter.unusedVariables false
open Nat renaming reduceBEq → sQ1, reduceAdd → sQ2, reduceLeDiff → sQ3, reduceMul → sQ4
open Int renaming reduceLE → sQ5, reduceLT → sQ6, reduceBEq → sQ7
section
set_option maxRecDepth 20000
namespace Go.Bi
open Go.Proofs
open Go.Ai (wrap_i64 Heap)
variable {W0 : World} {P : Program}
set_option maxHeartbeats 4000000
theorem putB_ok {F : Nat → Adr} {p : LPart} {g : H2} (hp : partB p = true) : TI Tryz.prog W0 207 [.st (xPart F p)] g (backI p) := by
 obtain ⟨hsh, h8, h3⟩ := part_t hp
 have h3a := allI_abs h3 (n := 15) (by omega) (by omega)
 obtain ⟨sh, hs⟩ := Int.eq_ofNat_of_zero_le hsh.1
 refine begins [[0], [1], [1, 4], [4], [1, 4], [1, 4, 5], [1, 4, 5], [1, 4, 5], [4]] Tryz.func207 rfl (rs := [.tmp 2, .tmp 3]) rfl rfl ?_
 intro wf
 have hne : (hn g .mk == hn g .mk + 1) = false := by simp
 repeat (first | rw [ko] | rw [kr] | simp -dsimp -implicitDefEqProofs only [go_sem, sQ1, sQ3, hoo, hne])
 refine wz_intro l01In_ok ?_
 rintro _ _ ⟨rfl, rfl⟩
 rw [inI_mk hsh.1 hsh.2]
 repeat (first | rw [ko] | rw [kr] | simp -dsimp -implicitDefEqProofs only [go_sem, sQ1, hoo, hne])
 refine wz_intro l01In_ok ?_
 rintro _ _ ⟨rfl, rfl⟩
 rw [inI_mk (by omega) (by omega)]
 repeat (first | rw [ko] | rw [kr] | simp -dsimp -implicitDefEqProofs only [go_sem, sQ1, hoo, hne])
 refine pw_intro (l05All_ok (by omega)) ?_
 rintro _ n1 hn1 rfl
 simp only [hn_push] at hn1
 rw [h3]
 repeat (first | rw [ko] | rw [kr] | simp -dsimp -implicitDefEqProofs only [go_sem, sQ1, hoo])
 refine lz_keep [1] (fun m e h' => ∃ (i : Nat) (v : X), look e 5 .mk = .raw (.int .i64 (i : Nat)) ∧ look e 4 .mk = v ∧ m + i = p.values.length ∧ OwnI (hn g .mk + 1) h' v ((backI p).take i) ∧ g.le h' ∧ hn g .mk + 1 ≤ hn h' .mk ∧ hg h' (hn g .mk) .mk = some ⟨2, [.raw (.int .i64 p.shift), .sl (F 1) 1 (ints p.values)]⟩) p.values.length ?_ ?_
 ·refine ⟨0, _, zsm, by simp -dsimp -implicitDefEqProofs only [go_sem] <;> rfl, by omega, ?_, le_up (le_push (le_push (H2.le.refl _))) (by simp only [hn_push]; omega), by simp only [hn_up]; omega, by simp -dsimp -implicitDefEqProofs only [go_sem, hne, hoo]⟩
  exact Own.keep (Own.new (g := g.push _) (by rw [hn_push]; exact Nat.le_refl _) rfl) (le_up (H2.le.refl _) (by simp only [hn_push]; omega))
 rintro m e h' hks ⟨i, v, e5, e4, hm, ow, hle, hn0, row⟩
 simp -dsimp -implicitDefEqProofs only [go_sem] at hks
 by_cases q1 : (i : Int) < (p.values.length : Int)
 ·have q2 : i < p.values.length := by omega
  have w1 := zwrs i (by omega)
  have hvi := getD_abs (by omega) h3a i
  have hp2 := pow_24 (m := sh) (by omega)
  have hm2 := mul_abs (a := 15) (b := 16777216) hvi ⟨by omega, hp2.2⟩
  have w2 := wrapS (x := p.values.getD i default * 2 ^ sh) (by omega)
  repeat (first | rw [ko] | rw [kr] | simp -dsimp -implicitDefEqProofs only [go_sem, sQ1, hks, e5, e4, q1, row])
  refine dq_intro [(0, []), (1, []), (2, []), (3, []), (4, []), (5, []), (6, []), (7, []), (8, [2, 5]), (9, []), (10, []), (11, []), (12, []), (13, [])] (by kernel_rfl) ?_
  repeat (first | rw [ko] | rw [kr] | simp -dsimp -implicitDefEqProofs only [go_sem, sQ1, q2, row, hs])
  refine wz_intro (pow_ok (by omega)) ?_
  rintro _ _ ⟨rfl, rfl⟩
  repeat (first | rw [ko] | rw [kr] | simp -dsimp -implicitDefEqProofs only [go_sem, sQ1, row, hs, w2])
  refine wz_intro (clamp2_ok (by omega) (by omega)) ?_
  rintro _ _ ⟨rfl, rfl⟩
  repeat (first | rw [ko] | rw [kr] | simp -dsimp -implicitDefEqProofs only [go_sem, sQ1, sQ3])
  refine app1 (P := Tryz.prog) (D := fun _ => none) Go.Ai.ty_el25 Go.Ai.ty_zr3 Go.Ai.ty_cl25 (by omega) ow hle (by omega) hn0 (by rw [List.length_take]; omega) ?_
  intro v4 g4 ow4 le4 nn4 on4
  have row4 := (on4 (hn g .mk) (by omega)).trans row
  have e6 : (backI p).take (i + 1) = (backI p).take i ++ [clp (p.values.getD i default * 2 ^ sh) 127] := by
   have := mapL_snoc (f := fun n => clp (n * 2 ^ p.shift.toNat) 127) q2
   rw [show p.shift.toNat = sh by omega] at this
   unfold backI
   rw [show p.shift.toNat = sh by omega]
   exact this
  repeat (first | rw [ko] | rw [kr] | simp -dsimp -implicitDefEqProofs only [go_sem, sQ1, w1])
  exact nx_keep (m - 1) (by omega) zsm ⟨i + 1, v4, zsm, zsm, by omega, e6 ▸ ow4, le4, nn4, row4⟩
 ·have c1 := (ownI_cell ow).2.2
  have hi : i = (backI p).length := by rw [backI_len]; omega
  repeat (first | rw [ko] | rw [kr] | simp -dsimp -implicitDefEqProofs only [go_sem, sQ1, hks, e5, e4, q1, row, c1])
  rw [hi, List.take_length] at ow
  exact ⟨hle, v, rfl, ow.wide (by omega)⟩
theorem bendB_ok {x : Int} {g : H2} (hx : -127 ≤ x ∧ x ≤ 127) : WC2 Tryz.prog W0 164 [.raw (.int .i64 x)] g (fun v g' => v = .raw (.int .i64 (bendI x)) ∧ g' = g) := by
 refine begins [[0], [0], [], [0]] Tryz.func164 rfl (rs := [.tmp 2]) rfl rfl ?_
 intro wf
 repeat (first | rw [ko] | rw [kr] | simp -dsimp -implicitDefEqProofs only [go_sem])
 refine wz_intro l01In_ok ?_
 rintro _ g ⟨rfl, rfl⟩
 rw [inI_mk hx.1 hx.2]
 repeat (first | rw [ko] | rw [kr] | simp -dsimp -implicitDefEqProofs only [go_sem, sQ1])
 refine wz_intro (clamp2_ok (by omega) (by omega)) ?_
 rintro _ g ⟨rfl, rfl⟩
 have hc := clp_abs (x := x) (m := 128) (by omega)
 have w1 := wrapS (x := 128 + clp x 128) (by omega)
 have b := mul_abs hx (show -256 ≤ 128 + clp x 128 ∧ 128 + clp x 128 ≤ 256 by omega)
 have w2 := wrapS (x := x * (128 + clp x 128)) (by omega)
 repeat (first | rw [ko] | rw [kr] | simp -dsimp -implicitDefEqProofs only [go_sem, w1, w2])
 refine wz_intro (floorB_ok (by omega) (by omega)) ?_
 rintro _ g ⟨rfl, rfl⟩
 repeat (first | rw [ko] | rw [kr] | simp -dsimp -implicitDefEqProofs only [go_sem])
 exact ⟨rfl, rfl⟩
theorem addB_ok {f f' : Adr} {x y : List Int} {g : H2} (hx : absB 1000 x) (hy : absB 1000 y) (hl : y.length = x.length) (h8 : x.length ≤ 8) : TI Tryz.prog W0 163 [.sl f 1 (ints x), .sl f' 1 (ints y)] g (addI x y) := by
 refine begins [[0, 1], [0, 1], [0, 1, 6], [6], [0, 1, 6], [0, 1, 6, 7], [0, 1, 6, 7], [0, 1, 6, 7], [6]] Tryz.func163 rfl (rs := [.tmp 4, .tmp 5]) rfl rfl ?_
 intro wf
 have hle : (x.length : Int) = (y.length : Int) := by omega
 have e1 : decide (¬ (x.length : Int) = (y.length : Int)) = false := decide_eq_false (fun h => h hle)
 have e2 : ¬ (x.length : Int) > 8 := by omega
 repeat (first | rw [ko] | rw [kr] | simp -dsimp -implicitDefEqProofs only [go_sem, sQ1, sQ3, e1, e2])
 refine pw_intro (l05All_ok (by omega)) ?_
 rintro _ n1 hn1 rfl
 rw [allI_absB hx (by omega)]
 repeat (first | rw [ko] | rw [kr] | simp -dsimp -implicitDefEqProofs only [go_sem, sQ1])
 refine pw_intro (l05All_ok (by omega)) ?_
 rintro _ n2 hn2 rfl
 rw [allI_absB hy (by omega)]
 simp only [hn_up, hn_push] at hn1 hn2
 have e3 : hn g .mk + 1 ≤ n2 := by omega
 repeat (first | rw [ko] | rw [kr] | simp -dsimp -implicitDefEqProofs only [go_sem, sQ1])
 refine lz_keep [0, 1] (fun m e h' => ∃ (i : Nat) (v : X), g.le h' ∧ hn g .mk ≤ hn h' .mk ∧ look e 7 .mk = .raw (.int .i64 (i : Nat)) ∧ look e 6 .mk = v ∧ m + i = x.length ∧ OwnI (hn g .mk) h' v ((addI x y).take i)) x.length ?_ ?_
 ·exact ⟨0, _, by first | exact le_up (le_up (le_push (H2.le.refl _)) (by simp only [hn_push]; omega)) (by simp only [hn_up]; omega) | exact le_up (le_push (H2.le.refl _)) (by simp only [hn_push]; omega), by simp only [hn_up]; omega, zsm, by simp -dsimp -implicitDefEqProofs only [go_sem] <;> rfl, by omega, by first | exact Own.keep (Own.new (Nat.le_refl _) rfl) (le_up (le_up (H2.le.refl _) (by simp only [hn_push]; omega)) (by simp only [hn_up]; omega)) | exact Own.keep (Own.new (Nat.le_refl _) rfl) (le_up (H2.le.refl _) (by simp only [hn_push]; omega))⟩
 rintro m e h' hks ⟨i, v, hle, nn, ei, ev, hm, ow⟩
 simp -dsimp -implicitDefEqProofs only [go_sem, sQ1] at hks
 have c0 := ownI_cell ow
 by_cases q1 : (i : Int) < (x.length : Int)
 ·have q2 : i < x.length := by omega
  have q3 : i < y.length := by omega
  have w1 := zwrs i (by omega)
  have a := getD_abs (by omega) hx i
  have b := getD_abs (by omega) hy i
  have w3 := wrapS (x := x.getD i default + y.getD i default) (by omega)
  repeat (first | rw [ko] | rw [kr] | simp -dsimp -implicitDefEqProofs only [go_sem, sQ1, hks, ei, ev, q1])
  refine dq_intro [(0, []), (1, []), (2, []), (3, []), (4, []), (5, []), (6, []), (7, []), (8, []), (9, []), (10, []), (11, []), (12, []), (13, [])] (by kernel_rfl) ?_
  repeat (first | rw [ko] | rw [kr] | simp -dsimp -implicitDefEqProofs only [go_sem, sQ1, q2, q3, w3])
  refine wz_intro (clamp2_ok (by omega) (by omega)) ?_
  rintro _ _ ⟨rfl, rfl⟩
  repeat (first | rw [ko] | rw [kr] | simp -dsimp -implicitDefEqProofs only [go_sem, sQ1, sQ3])
  refine app1 (P := Tryz.prog) (D := fun _ => none) Go.Ai.ty_el25 Go.Ai.ty_zr3 Go.Ai.ty_cl25 (by omega) ow hle (by omega) nn (by rw [List.length_take]; omega) ?_
  intro v4 g4 ow4 le4 nn4 on4
  repeat (first | rw [ko] | rw [kr] | simp -dsimp -implicitDefEqProofs only [go_sem, sQ1, w1])
  exact nx_keep (m - 1) (by omega) zsm ⟨i + 1, v4, le4, nn4, zsm, zsm, by omega, (mapR_snoc q2).symm ▸ ow4⟩
 ·repeat (first | rw [ko] | rw [kr] | simp -dsimp -implicitDefEqProofs only [go_sem, sQ1, hks, ei, ev, q1, c0])
  have hi : i = (addI x y).length := by rw [addI_len]; omega
  rw [hi, List.take_length] at ow
  exact ⟨hle, v, rfl, ow⟩
theorem ofHeadB_ok {f : Adr} {ks : List (List LPart)} {h : Nat} {g : H2} (hk : ∀ i, i < ks.length → h < (ks.getD i default).length ∧ partB ((ks.getD i default).getD h default) = true) (hn0 : ks.length ≤ 1000) : PW Tryz.prog W0 159 [.sl f 1 (rPartSS ks), .raw (.int .i64 h)] g (fun y => ∃ f, y = .sl f 1 (rIntSS (ofHeadI ks h))) := by
 refine (PW.of (q := fun _ => True) (Q := fun y => ∃ f, y = .sl f 1 (rIntSS (ofHeadI ks h))) ?_).mono fun y h => h.1
 refine begins [[0, 1], [0, 1], [0, 1, 5], [0, 1, 5, 6], [0, 1, 5, 6], [0, 1, 5, 6], [0, 1, 5, 6, 7], [5]] Tryz.func159 rfl (rs := [.tmp 4]) rfl rfl ?_
 intro wf
 repeat (first | rw [ko] | rw [kr] | simp -dsimp -implicitDefEqProofs only [go_sem, sQ1, sQ3])
 refine lz_keep [0, 1] (fun m e h' => ∃ (i : Nat) (v : X) (cs : List X), g.le h' ∧ hn g .mk ≤ hn h' .mk ∧ look e 6 .mk = .raw (.int .i64 (i : Nat)) ∧ look e 5 .mk = v ∧ m + i = ks.length ∧ Own (hn g .mk) h' v 1 ((ofHeadI ks h).take i).length cs ∧ ERow eIntS 1 cs ((ofHeadI ks h).take i)) ks.length ?_ ?_
 ·exact ⟨0, _, [], le_push (H2.le.refl _), by simp only [hn_push]; omega, zsm, by simp -dsimp -implicitDefEqProofs only [go_sem] <;> rfl, by omega, Own.new (Nat.le_refl _) rfl, .nil⟩
 rintro m e h' hks ⟨i, v, cs, hle, nn, ei, ev, hm, ow, hc⟩
 simp -dsimp -implicitDefEqProofs only [go_sem, sQ1] at hks
 have c0 := own_cell ow
 by_cases q1 : (i : Int) < (ks.length : Int)
 ·have q2 : i < ks.length := by omega
  obtain ⟨q3, q4⟩ := hk i q2
  have w1 := zwrs i (by omega)
  repeat (first | rw [ko] | rw [kr] | simp -dsimp -implicitDefEqProofs only [go_sem, sQ1, sQ2, sQ3, hks, ei, ev, q1, q2, q3])
  refine pw_intro (TI.pw (putB_ok (F := fun j => under (under (under (under f i) 0) h) j) q4)) ?_
  rintro _ n1 hn1 ⟨⟨f2, rfl⟩, _⟩
  repeat (first | rw [ko] | rw [kr] | simp -dsimp -implicitDefEqProofs only [go_sem, sQ1, sQ3])
  refine appE (P := Tryz.prog) (a := backI ((ks.getD i default).getD h default)) eleI Go.Ai.ty_el23 Go.Ai.ty_zr25 rfl Go.Ai.ty_cl23 (by omega) (Own.keep ow (le_up (H2.le.refl _) hn1)) hc (by rw [hn_up]; omega) (by rw [List.length_take]; omega) ?_
  intro v4 g4 cs4 ow4 hc4 nn4 on4
  have e4 : (ofHeadI ks h).take (i + 1) = (ofHeadI ks h).take i ++ [backI ((ks.getD i default).getD h default)] := mapL_snoc q2
  rw [← e4] at ow4 hc4
  repeat (first | rw [ko] | rw [kr] | simp -dsimp -implicitDefEqProofs only [go_sem, sQ1, w1])
  exact nx_keep (m - 1) (by omega) zsm ⟨i + 1, v4, cs4, le_below (le_up hle hn1) (Nat.le_refl _) nn4 on4, nn4, zsm, zsm, by omega, ow4, hc4⟩
 ·repeat (first | rw [ko] | rw [kr] | simp -dsimp -implicitDefEqProofs only [go_sem, sQ1, hks, ei, ev, q1])
  have hi : i = (ofHeadI ks h).length := by unfold ofHeadI; rw [List.length_map]; omega
  rw [hi, List.take_length] at ow hc
  obtain ⟨f, hf⟩ := erow_fz eleI (p := fun b => hn g .mk ≤ b) ow hc (fun b hb => hb)
  exact ⟨hle, _, hf, f, rfl⟩
theorem headsB_ok {f : Adr} {x : List Int} {n size : Nat} {g : H2} (hn2 : n = 1 ∨ n = 2) (hs : 1 ≤ size) (hl : x.length = n * size) (h8 : x.length ≤ 8) : PW Tryz.prog W0 157 [.sl f 1 (ints x), .raw (.int .i64 n)] g (fun y => ∃ f, y = .tp [.sl f 1 (rIntSS (headsL x size n)), .raw (.bool true)]) := by
 refine (PW.of (q := fun _ => True) (Q := fun y => ∃ f, y = .tp [.sl f 1 (rIntSS (headsL x size n)), .raw (.bool true)]) ?_).mono fun y h => h.1
 refine begins [[0, 1], [0, 1], [0, 1, 6], [6], [0, 1, 6], [0, 1, 6, 7], [0, 1, 6, 7, 8], [0, 1, 6, 7, 8], [0, 1, 6, 7, 8], [6]] Tryz.func157 rfl (rs := [.tmp 4, .tmp 5]) rfl rfl ?_
 intro wf
 have z1 : decide ((x.length : Int) = 0) = false := decide_eq_false (by rcases hn2 with rfl | rfl <;> omega)
 have z2 : decide (¬ ((0 : Int) = 0)) = false := by decide
 have z3 : ((n : Int) == 0) = false := by rw [beq_eq_false_iff_ne]; omega
 have t2 : Int.tmod (x.length : Int) (n : Int) = 0 := by show ((x.length % n : Nat) : Int) = 0; rw [hl, Nat.mul_mod_right]; rfl
 have t3 : Int.tdiv (x.length : Int) (n : Int) = (size : Int) := by show ((x.length / n : Nat) : Int) = _; rw [hl, Nat.mul_div_cancel_left _ (by omega)]
 have hs8 : size ≤ 8 := by rcases hn2 with rfl | rfl <;> omega
 have t4 : IntKind.i64.wrap (size : Int) = (size : Int) := by rw [wrap_i64] <;> omega
 have key : (decide (¬ (n : Int) = 1) = false ∧ (0 : Int) ≤ 0) ∨ (decide (¬ (n : Int) = 1) = true ∧ decide (¬ (n : Int) = 2) = false) := by
  rcases hn2 with h | h
  ·exact .inl ⟨decide_eq_false (by omega), by omega⟩
  ·exact .inr ⟨decide_eq_true (by omega), decide_eq_false (by omega)⟩
 rcases key with ⟨k0, k1⟩ | ⟨k0, k1⟩
 all_goals
  repeat (first | rw [ko] | rw [kr] | simp -dsimp -implicitDefEqProofs only [go_sem, sQ1, sQ3, k0, k1, z1, z3, t2, t3, t4])
  refine lz_keep [0, 1, 7] (fun m e h' => ∃ (k : Nat) (v : X) (bs : List Nat), g.le h' ∧ look e 8 .mk = .raw (.int .i64 (k : Nat)) ∧ look e 6 .mk = v ∧ m + k = n ∧ Gr (hn g .mk) h' v 1 k ((((headsL x size n).take k).map eIntS).flatten) bs) n ?_ ?_
  ·exact ⟨0, _, [], le_push (H2.le.refl _), zsm, by simp -dsimp -implicitDefEqProofs only [go_sem] <;> rfl, by omega, Gr.empty (Nat.le_refl _)⟩
  rintro m e h' hks ⟨k, v, bs, hle, ei, ev, hm, gr⟩
  simp -dsimp -implicitDefEqProofs only [go_sem, sQ1] at hks
  have hv := Gr.cell gr
  by_cases q1 : (k : Int) < (n : Int)
  ·have q2 : k < n := by omega
   have hks8 : k * size + size ≤ x.length := by
    have := Nat.mul_le_mul_right size (show k + 1 ≤ n from q2)
    rw [Nat.succ_mul] at this
    omega
   have w1 := zwrs k (by omega)
   have m1 : (k : Int) * (size : Int) = ((k * size : Nat) : Int) := by norm_cast
   have m2 : IntKind.i64.wrap ((k * size : Nat) : Int) = ((k * size : Nat) : Int) := by rw [wrap_i64] <;> omega
   have m3 : IntKind.i64.wrap (((k * size : Nat) : Int) + (size : Int)) = ((k * size + size : Nat) : Int) := by rw [wrap_i64] <;> omega
   have q4 : ((k * size : Nat) : Int) ≤ ((k * size + size : Nat) : Int) := by omega
   have q5 : ((k * size + size : Nat) : Int) ≤ (x.length : Int) := by omega
   have q6 : (0 : Int) ≤ ((k * size + size : Nat) : Int) := by omega
   have q7 : k * size ≤ k * size + size := by omega
   have q8 : k * size + size - k * size = size := by omega
   have q9 : (0 : Int) ≤ ((k * size : Nat) : Int) := by omega
   have hh : (x.drop (k * size)).take size = headI x size k := rfl
   have hhl : (headI x size k).length ≤ 8 := by unfold headI; rw [List.length_take]; omega
   have hat := headsL_at (x := x) (s := size) q2
   repeat (first | rw [ko] | rw [kr] | simp -dsimp -implicitDefEqProofs only [go_sem, sQ1, sQ3, hks, ei, ev, q1, m1, m2, m3, q4, q5, q6, q8, q9, Int.toNat_natCast, hh])
   refine appI (P := Tryz.prog) (N := hn h' .mk) (xs := []) Go.Ai.ty_el25 Go.Ai.ty_zr3 Go.Ai.ty_cl25 (by omega) (Own.new (Nat.le_refl _) rfl) (by simp only [hn_push]; omega) (by simp only [List.length_nil]; omega) ?_
   intro y g1 oy nn1 on1
   rw [List.nil_append] at oy
   have l1 : h'.le g1 := le_below (le_push (H2.le.refl h')) (Nat.le_refl _) nn1 on1
   obtain ⟨b1, ot, bl1⟩ := OwnI.tree oy
   have hy := OT.cell ot
   repeat (first | rw [ko] | rw [kr] | simp -dsimp -implicitDefEqProofs only [go_sem, sQ3, hy])
   refine lit_intro (cs := [y]) rfl ?_
   intro w g2 hs2 l2
   have ll2 := l2.1
   have ll0 := hle.1
   have hvl := gr.lt
   repeat (first | rw [ko] | rw [kr] | simp -dsimp -implicitDefEqProofs only [go_sem, sQ1])
   refine append_grF (P := Tryz.prog) (N := hn g .mk) (us := [.l 1 (ints (headI x size k))]) Go.Ai.ty_el23 Go.Ai.ty_zr25 rfl Go.Ai.ty_cl23 (by omega) (gr.keep (l1.trans l2)) hs2 (OTs.one (ot.keep l2 bl1)) rfl (by omega) (fun b hb => by have := bl1.2 b hb; omega) bl1.1 (fun b hb hb' => by have := gr.bl b hb; have := bl1.2 b hb'; omega) (fun b e hb' => by have := hvl b e; have := bl1.2 b hb'; omega) (by omega) ?_
   intro g3 gr3 n3 fr3
   repeat (first | rw [ko] | rw [kr] | simp -dsimp -implicitDefEqProofs only [go_sem, sQ1, w1])
   refine nx_keep (m - 1) (by omega) zsm ⟨k + 1, .raw (.slice (some ⟨hn g2 .mk, 0, none⟩) (k + 1) (k + 1)), bs ++ b1, ⟨by omega, fun c hc => (fr3 c (by omega) (fun e => by have := hvl c e; omega)).trans (((hle.trans l1).trans l2).2 c hc)⟩, zsm, zsm, by omega, ?_⟩
   rw [flat_next (E := eIntS) (l := headsL x size n) (by rw [headsL_len]; exact q2), hat]
   exact gr3
  ·repeat (first | rw [ko] | rw [kr] | simp -dsimp -implicitDefEqProofs only [go_sem, sQ1, hks, ei, ev, q1, hv])
   have hi : k = (headsL x size n).length := by rw [headsL_len]; omega
   rw [hi, List.take_length] at gr
   obtain ⟨bs', o', bl'⟩ := Gr.tree (es := rIntSS (headsL x size n)) gr (by rw [rIntSS_len]) (fun e he => by obtain ⟨x, _, rfl⟩ := List.mem_map.1 he; rfl)
   obtain ⟨f2, hf2⟩ := o'.fz (p := fun b => hn g .mk ≤ b) (q := fun _ => True) fun b hb => (bl'.2 b hb).1
   exact ⟨hle, _, fz2 hf2 .raw, f2, rfl⟩
end Go.Bi
end
section
set_option maxRecDepth 20000
namespace Go.Bi
open Go.Proofs
open Go.Ai (wrap_i64 Heap)
variable {W0 : World} {P : Program}
set_option maxHeartbeats 4000000
theorem fitsB_ok {f : Adr} {x : List Int} {sh : Nat} {g : H2} (hx : absB 127 x) (h8 : x.length ≤ 8) (hsh : sh ≤ 4) : WC2 Tryz.prog W0 206 [.sl f 1 (ints x), .raw (.int .i64 sh)] g (fun y g' => y = .raw (.bool (cutB x sh)) ∧ g' = g) := by
 refine begins [[0, 1], [0, 1], [0, 1, 5], [0, 1, 5], [0, 1, 5], [], []] Tryz.func206 rfl (rs := [.tmp 4]) rfl rfl ?_
 intro wf
 repeat (first | rw [ko] | rw [kr] | simp -dsimp -implicitDefEqProofs only [go_sem])
 refine lz_keep [0, 1] (fun m e h' => ∃ (i : Nat), h' = g ∧ look e 5 .mk = .raw (.int .i64 (i : Nat)) ∧ cutB (x.take i) sh = true ∧ m + i = x.length) x.length ?_ ?_
 ·exact ⟨0, rfl, zsm, rfl, by omega⟩
 rintro m e h' hks ⟨i, rfl, ei, hb, hm⟩
 simp -dsimp -implicitDefEqProofs only [go_sem, sQ1] at hks
 by_cases q1 : (i : Int) < (x.length : Int)
 ·have q2 : i < x.length := by omega
  have w1 := zwrs i (by omega)
  have hxi := getD_abs (by omega) hx i
  have es := cutB_succ (sh := sh) q2
  rw [hb, Bool.true_and] at es
  repeat (first | rw [ko] | rw [kr] | simp -dsimp -implicitDefEqProofs only [go_sem, sQ1, hks, ei, q1, q2])
  refine wz_intro (mulB_ok (by omega) (by omega) (by omega)) ?_
  rintro _ _ ⟨rfl, rfl⟩
  repeat (first | rw [ko] | rw [kr] | simp -dsimp -implicitDefEqProofs only [go_sem])
  refine wz_intro l01In_ok ?_
  rintro _ _ ⟨rfl, rfl⟩
  cases hi : inI (mulSh (x.getD i default) 1 sh) (-15) 15
  ·repeat (first | rw [ko] | rw [kr] | simp -dsimp -implicitDefEqProofs only [go_sem])
   refine ⟨?_, rfl⟩
   have : cutB x sh = false := by
    unfold cutB
    rw [List.all_eq_false]
    exact ⟨x.getD i default, getD_mem q2, by rw [hi]; decide⟩
   rw [this]
  ·rw [hi] at es
   repeat (first | rw [ko] | rw [kr] | simp -dsimp -implicitDefEqProofs only [go_sem, sQ1, w1])
   exact nx_keep (m - 1) (by omega) zsm ⟨i + 1, rfl, zsm, es, by omega⟩
 ·repeat (first | rw [ko] | rw [kr] | simp -dsimp -implicitDefEqProofs only [go_sem, sQ1, hks, ei, q1])
  have hi : i = x.length := by omega
  rw [hi, List.take_length] at hb
  exact ⟨by rw [hb], rfl⟩
theorem cutDownB_ok {f : Adr} {x : List Int} {g : H2} (hx : absB 127 x) (h1 : 1 ≤ x.length) (h8 : x.length ≤ 8) : PW Tryz.prog W0 158 [.sl f 1 (ints x)] g (fun y => (∃ F, y = .tp [.st (xPart F (cutI x)), .raw (.bool true)]) ∧ AllB (fun b => hn g .mk ≤ b) y) := by
 refine (PW.of (q := fun b => hn g .mk ≤ b) (Q := fun y => ∃ F, y = .tp [.st (xPart F (cutI x)), .raw (.bool true)]) ?_).mono fun y ⟨h1, h2⟩ => ⟨h1, h2.imp fun b hb => hb.elim id id⟩
 refine begins [[0], [0, 2], [2], [0, 2], [0, 2, 4], [0, 2, 4], [0, 2, 4], [0, 2, 4, 5], [0, 2, 4, 5, 6], [0, 2, 4, 5, 6], [0, 2, 4, 5, 6], [2, 5]] Tryz.func158 rfl (rs := [.cell 2 196, .tmp 3]) rfl rfl ?_
 intro wf
 repeat (first | rw [ko] | rw [kr] | simp -dsimp -implicitDefEqProofs only [go_sem, hoo])
 refine wz_intro l01In_ok ?_
 rintro _ _ ⟨rfl, rfl⟩
 rw [inI_mk (by omega) (by omega)]
 repeat (first | rw [ko] | rw [kr] | simp -dsimp -implicitDefEqProofs only [go_sem, sQ1, hoo])
 refine pw_intro (l05All_ok (by omega)) ?_
 rintro _ n1 hn1 rfl
 rw [allI_absB hx (by omega)]
 rw [hn_push] at hn1
 repeat (first | rw [ko] | rw [kr] | simp -dsimp -implicitDefEqProofs only [go_sem, sQ1, hoo])
 refine lz_keep [0, 2] (fun m e h' => ∃ (sh : Nat), h' = (g.push ⟨2, [.raw (.int .i64 0), .raw (.slice none 0 0)]⟩).up n1 ∧ look e 4 .mk = .raw (.int .i64 (sh : Nat)) ∧ m + sh = 5 ∧ sh ≤ 4 ∧ ∀ j, j < sh → cutB x j = false) 5 ?_ ?_
 ·exact ⟨0, rfl, zsm, by omega, by omega, fun j hj => by omega⟩
 rintro m e h' hks ⟨sh, rfl, ei, hm, h4, hpre⟩
 simp -dsimp -implicitDefEqProofs only [go_sem] at hks
 have hne : (hn g .mk == n1) = false := zne
 have w2 := zwrs sh (by omega)
 have key : ((cutB x sh = true ∨ sh = 4) → cutS x = sh) := fun hb => cutS_is hpre h4 hb
 have fin : ∀ (G : H2) (v : X), OwnI (n1 + 1) G v (cutV x sh) → cutS x = sh → (cutB x sh = true ∨ sh = 4) → ∃ y, Fz (fun b => hn g .mk ≤ b) (fun b => hn g .mk ≤ b) G (.tp [.st [.raw (.int .i64 (sh : Nat)), v], .raw (.bool true)]) y ∧ ∃ F, y = .tp [.st (xPart F (cutI x)), .raw (.bool true)] := fun G v ow hc _ => by
  obtain ⟨fv, hfv⟩ := ow.fz (p := fun b => hn g .mk ≤ b) (q := fun b => hn g .mk ≤ b) fun b hb => by omega
  refine ⟨_, fz2 (fzs2 .raw hfv) .raw, fun _ => fv, ?_⟩
  unfold cutI
  rw [hc]
  rfl
 by_cases h5 : (sh : Int) < 4
 ·repeat (first | rw [ko] | rw [kr] | simp -dsimp -implicitDefEqProofs only [go_sem, sQ1, hks, ei, h5])
  refine wz_intro (fitsB_ok hx h8 h4) ?_
  rintro _ _ ⟨rfl, rfl⟩
  cases hb : cutB x sh
  ·repeat (first | rw [ko] | rw [kr] | simp -dsimp -implicitDefEqProofs only [go_sem, sQ1, w2])
   exact nx_keep (m - 1) (by omega) zsm ⟨sh + 1, rfl, zsm, by omega, by omega, fun j hj => by
    by_cases e : j = sh
    ·subst e; exact hb
    ·exact hpre j (by omega)⟩
  ·have hc := key (.inl hb)
   repeat (first | rw [ko] | rw [kr] | simp -dsimp -implicitDefEqProofs only [go_sem, sQ1, sQ2, hoo])
   refine lz_keep [0, 2, 4, 5] (fun m2 e2 h2 => ∃ (i : Nat) (v : X), g.le h2 ∧ n1 + 1 ≤ hn h2 .mk ∧ hg h2 n1 .mk = some ⟨2, [.raw (.int .i64 (sh : Nat)), v]⟩ ∧ hg h2 (hn g .mk) .mk = some ⟨2, [.raw (.int .i64 0), .raw (.slice none 0 0)]⟩ ∧ look e2 6 .mk = .raw (.int .i64 (i : Nat)) ∧ m2 + i = x.length ∧ OwnI (n1 + 1) h2 v ((cutV x sh).take i)) x.length ?_ ?_
   ·exact ⟨0, _, le_set (le_push (le_up (le_push (H2.le.refl _)) (by rw [hn_push]; exact hn1))) (by omega), by simp only [hn_set, hn_push, hn_up]; omega, by simp -dsimp -implicitDefEqProofs only [go_sem, hoo], by simp -dsimp -implicitDefEqProofs only [go_sem, hoo, hne], zsm, by omega, Own.nil⟩
   rintro m2 e2 h2 hks2 ⟨i, v, hle, nn, row, row0, ei2, hm2, ow⟩
   simp -dsimp -implicitDefEqProofs only [go_sem, sQ1] at hks2
   have c0 := ownI_cell ow
   by_cases q1 : (i : Int) < (x.length : Int)
   ·have q2 : i < x.length := by omega
    have w1 := zwrs i (by omega)
    have hxi := getD_abs (by omega) hx i
    have hne3 : (hn g .mk == n1) = false := hne
    repeat (first | rw [ko] | rw [kr] | simp -dsimp -implicitDefEqProofs only [go_sem, sQ1, hks2, ei2, q1])
    refine dq_intro [(0, []), (1, []), (2, []), (3, []), (4, []), (5, []), (6, []), (7, [1]), (8, [1]), (9, [1]), (10, []), (11, []), (12, [])] (by kernel_rfl) ?_
    repeat (first | rw [ko] | rw [kr] | simp -dsimp -implicitDefEqProofs only [go_sem, sQ1, q2, row])
    refine wz_intro (mulB_ok (by omega) (by omega) (by omega)) ?_
    rintro _ _ ⟨rfl, rfl⟩
    repeat (first | rw [ko] | rw [kr] | simp -dsimp -implicitDefEqProofs only [go_sem, sQ1, row])
    refine wz_intro (clamp2_ok (by omega) (by omega)) ?_
    rintro _ _ ⟨rfl, rfl⟩
    repeat (first | rw [ko] | rw [kr] | simp -dsimp -implicitDefEqProofs only [go_sem, sQ1, sQ3, row])
    refine app1 (P := Tryz.prog) (D := fun _ => none) Go.Ai.ty_el25 Go.Ai.ty_zr3 Go.Ai.ty_cl25 (by omega) ow hle (by omega) nn (by rw [List.length_take]; omega) ?_
    intro v4 g4 ow4 le4 nn4 on4
    have c4 := ownI_cell ow4
    have row4 := (on4 n1 (by omega)).trans row
    have row04 := (on4 (hn g .mk) (by omega)).trans row0
    have e4 : (cutV x sh).take (i + 1) = (cutV x sh).take i ++ [clp (mulSh (x.getD i default) 1 sh) 15] := mapL_snoc q2
    repeat (first | rw [ko] | rw [kr] | simp -dsimp -implicitDefEqProofs only [go_sem, sQ1, row4, c4, w1])
    exact nx_keep (m2 - 1) (by omega) zsm ⟨i + 1, v4, le_set le4 (by omega), by rw [hn_set]; exact nn4, by simp -dsimp -implicitDefEqProofs only [go_sem, hoo], by simp -dsimp -implicitDefEqProofs only [go_sem, row04, hne3], zsm, by omega, e4 ▸ OwnI.put ow4 (by omega)⟩
   ·repeat (first | rw [ko] | rw [kr] | simp -dsimp -implicitDefEqProofs only [go_sem, sQ1, sQ2, hks2, ei2, q1, row, row0, c0])
    have hi : i = (cutV x sh).length := by unfold cutV; rw [List.length_map]; omega
    rw [hi, List.take_length] at ow
    exact ⟨le_set hle (Nat.le_refl _), fin _ v (OwnI.put ow (by omega)) hc (.inl hb)⟩
 ·have h6 : sh = 4 := by omega
  have hc := key (.inr h6)
  have hb : cutB x sh = true ∨ sh = 4 := .inr h6
  repeat (first | rw [ko] | rw [kr] | simp -dsimp -implicitDefEqProofs only [go_sem, sQ1, sQ2, hks, ei, h5, hoo])
  refine lz_keep [0, 2, 4, 5] (fun m2 e2 h2 => ∃ (i : Nat) (v : X), g.le h2 ∧ n1 + 1 ≤ hn h2 .mk ∧ hg h2 n1 .mk = some ⟨2, [.raw (.int .i64 (sh : Nat)), v]⟩ ∧ hg h2 (hn g .mk) .mk = some ⟨2, [.raw (.int .i64 0), .raw (.slice none 0 0)]⟩ ∧ look e2 6 .mk = .raw (.int .i64 (i : Nat)) ∧ m2 + i = x.length ∧ OwnI (n1 + 1) h2 v ((cutV x sh).take i)) x.length ?_ ?_
  ·exact ⟨0, _, le_set (le_push (le_up (le_push (H2.le.refl _)) (by rw [hn_push]; exact hn1))) (by omega), by simp only [hn_set, hn_push, hn_up]; omega, by simp -dsimp -implicitDefEqProofs only [go_sem, hoo], by simp -dsimp -implicitDefEqProofs only [go_sem, hoo, hne], zsm, by omega, Own.nil⟩
  rintro m2 e2 h2 hks2 ⟨i, v, hle, nn, row, row0, ei2, hm2, ow⟩
  simp -dsimp -implicitDefEqProofs only [go_sem, sQ1] at hks2
  have c0 := ownI_cell ow
  by_cases q1 : (i : Int) < (x.length : Int)
  ·have q2 : i < x.length := by omega
   have w1 := zwrs i (by omega)
   have hxi := getD_abs (by omega) hx i
   have hne3 : (hn g .mk == n1) = false := hne
   repeat (first | rw [ko] | rw [kr] | simp -dsimp -implicitDefEqProofs only [go_sem, sQ1, hks2, ei2, q1])
   refine dq_intro [(0, []), (1, []), (2, []), (3, []), (4, []), (5, []), (6, []), (7, [1]), (8, [1]), (9, [1]), (10, []), (11, []), (12, [])] (by kernel_rfl) ?_
   repeat (first | rw [ko] | rw [kr] | simp -dsimp -implicitDefEqProofs only [go_sem, sQ1, q2, row])
   refine wz_intro (mulB_ok (by omega) (by omega) (by omega)) ?_
   rintro _ _ ⟨rfl, rfl⟩
   repeat (first | rw [ko] | rw [kr] | simp -dsimp -implicitDefEqProofs only [go_sem, sQ1, row])
   refine wz_intro (clamp2_ok (by omega) (by omega)) ?_
   rintro _ _ ⟨rfl, rfl⟩
   repeat (first | rw [ko] | rw [kr] | simp -dsimp -implicitDefEqProofs only [go_sem, sQ1, sQ3, row])
   refine app1 (P := Tryz.prog) (D := fun _ => none) Go.Ai.ty_el25 Go.Ai.ty_zr3 Go.Ai.ty_cl25 (by omega) ow hle (by omega) nn (by rw [List.length_take]; omega) ?_
   intro v4 g4 ow4 le4 nn4 on4
   have c4 := ownI_cell ow4
   have row4 := (on4 n1 (by omega)).trans row
   have row04 := (on4 (hn g .mk) (by omega)).trans row0
   have e4 : (cutV x sh).take (i + 1) = (cutV x sh).take i ++ [clp (mulSh (x.getD i default) 1 sh) 15] := mapL_snoc q2
   repeat (first | rw [ko] | rw [kr] | simp -dsimp -implicitDefEqProofs only [go_sem, sQ1, row4, c4, w1])
   exact nx_keep (m2 - 1) (by omega) zsm ⟨i + 1, v4, le_set le4 (by omega), by rw [hn_set]; exact nn4, by simp -dsimp -implicitDefEqProofs only [go_sem, hoo], by simp -dsimp -implicitDefEqProofs only [go_sem, row04, hne3], zsm, by omega, e4 ▸ OwnI.put ow4 (by omega)⟩
  ·repeat (first | rw [ko] | rw [kr] | simp -dsimp -implicitDefEqProofs only [go_sem, sQ1, sQ2, hks2, ei2, q1, row, row0, c0])
   have hi : i = (cutV x sh).length := by unfold cutV; rw [List.length_map]; omega
   rw [hi, List.take_length] at ow
   exact ⟨le_set hle (Nat.le_refl _), fin _ v (OwnI.put ow (by omega)) hc hb⟩
theorem absB1_ok {x : Int} {g : H2} (hx : -10000000 ≤ x ∧ x ≤ 10000000) : WC2 Tryz.prog W0 161 [.raw (.int .i64 x)] g (fun v g' => v = .raw (.int .i64 (max x (-x))) ∧ g' = g) := by
 refine begins [[0], [0], [0], [0]] Tryz.func161 rfl (rs := [.tmp 2]) rfl rfl ?_
 intro wf
 have w : IntKind.i64.wrap (0 - x) = -x := by rw [wrapS (by omega)]; omega
 repeat (first | rw [ko] | rw [kr] | simp -dsimp -implicitDefEqProofs only [go_sem])
 refine gz_dec (fun h1 => ?_) (fun h1 => ?_)
 ·repeat (first | rw [ko] | rw [kr] | simp -dsimp -implicitDefEqProofs only [go_sem, w])
  exact ⟨by rw [show max x (-x) = -x by omega], rfl⟩
 ·repeat (first | rw [ko] | rw [kr] | simp -dsimp -implicitDefEqProofs only [go_sem])
  exact ⟨by rw [show max x (-x) = x by omega], rfl⟩
theorem sumsB_ok {F : Nat → Adr} {b : Nat} {r s : Int} {m : LMatrix} {f : Adr} {x : List Int} {g : H2} (mt : Mt (some b) g r s) (hm : matB m = true) (hl : (x.length : Int) = m.width) (hx : absB 127 x) :
  PM Tryz.prog W0 111 [.raw (.pointer (some ⟨b, 0, none⟩)), .st (xMatrix F m), .sl f 1 (ints x)] g (some b) (greatI r (wideI m x)) s fun y => y = .tp [] := by
 refine (PM.of (q := fun _ => True) (Q := fun y => y = .tp []) mt ?_).mono fun y h => h.1
 have hwl : (wideI m x).length = m.rows.length := wideI_len
 have hwa := wide_to hm hx
 have hrl := (mat_t hm).2.1
 refine begins [[0, 1, 2], [0, 2, 4], [0, 6], [0, 6, 8], [0, 6, 8], [0, 6, 8], [0, 6, 8]] Tryz.func111 rfl (rs := []) rfl rfl ?_
 intro wf
 repeat (first | rw [ko] | rw [kr] | simp -dsimp -implicitDefEqProofs only [go_sem, sQ1, hoo])
 refine pw_intro (TI.pw (wideB_ok (F := F) hm hl hx)) ?_
 rintro _ n1 hn1 ⟨⟨f2, rfl⟩, _⟩
 simp only [hn_push] at hn1
 repeat (first | rw [ko] | rw [kr] | simp -dsimp -implicitDefEqProofs only [go_sem, sQ1])
 refine lz_keep [0, 6] (fun mm e h' => ∃ (i : Nat), OnM (some b) g h' ∧ Mt (some b) h' (greatI r ((wideI m x).take i)) s ∧ look e 8 .mk = .raw (.int .i64 (i : Nat)) ∧ mm + i = m.rows.length) m.rows.length ?_ ?_
 ·exact ⟨0, OnM.up (OnM.push OnM.refl) (by rw [hn_push]; exact hn1), Mt.up mt.push (by rw [hn_push]; exact hn1), zsm, by omega⟩
 rintro mm e h' hks ⟨i, onL, mtL, ei, hmm⟩
 simp -dsimp -implicitDefEqProofs only [go_sem, sQ1] at hks
 obtain ⟨hb, mrow⟩ := mtL b rfl
 unfold metO at mrow
 by_cases q1 : (i : Int) < (m.rows.length : Int)
 ·have q2 : i < m.rows.length := by omega
  have q3 : i < (wideI m x).length := by omega
  have w1 := zwrs i (by omega)
  have hxi := getD_abs (by omega) hwa i
  have eg := great_succ (n := r) q3
  repeat (first | rw [ko] | rw [kr] | simp -dsimp -implicitDefEqProofs only [go_sem, sQ1, hks, ei, q1, hwl])
  refine dq_intro [(0, []), (1, []), (2, []), (3, []), (5, []), (6, []), (7, []), (8, []), (4, [8]), (9, [])] (by kernel_rfl) ?_
  repeat (first | rw [ko] | rw [kr] | simp -dsimp -implicitDefEqProofs only [go_sem, sQ1, q2, hwl, mrow])
  refine wz_intro (absB1_ok hxi) ?_
  rintro _ _ ⟨rfl, rfl⟩
  by_cases q4 : max ((wideI m x).getD i default) (-(wideI m x).getD i default) > greatI r ((wideI m x).take i)
  ·have e5 : greatI r ((wideI m x).take (i + 1)) = max ((wideI m x).getD i default) (-(wideI m x).getD i default) := by rw [eg]; omega
   repeat (first | rw [ko] | rw [kr] | simp -dsimp -implicitDefEqProofs only [go_sem, sQ1, q2, hwl, mrow, q4])
   refine wz_intro (absB1_ok hxi) ?_
   rintro _ _ ⟨rfl, rfl⟩
   repeat (first | rw [ko] | rw [kr] | simp -dsimp -implicitDefEqProofs only [go_sem, sQ1, mrow, w1])
   exact nx_keep (mm - 1) (by omega) zsm ⟨i + 1, OnM.setb onL, by rw [e5]; exact Mt.setb hb, zsm, by omega⟩
  ·have e5 : greatI r ((wideI m x).take (i + 1)) = greatI r ((wideI m x).take i) := by rw [eg]; omega
   repeat (first | rw [ko] | rw [kr] | simp -dsimp -implicitDefEqProofs only [go_sem, sQ1, mrow, q4, w1])
   exact nx_keep (mm - 1) (by omega) zsm ⟨i + 1, onL, by rw [e5]; exact mtL, zsm, by omega⟩
 ·repeat (first | rw [ko] | rw [kr] | simp -dsimp -implicitDefEqProofs only [go_sem, sQ1, hks, ei, q1, hwl])
  have hi : i = (wideI m x).length := by omega
  rw [hi, List.take_length] at mtL
  exact ⟨onL, mtL, .tp [], .tp rfl fun i hi _ => by simp at hi, rfl⟩
end Go.Bi
end
section
set_option maxRecDepth 20000
namespace Go.Bi
open Go.Proofs
open Go.Ai (wrap_i64 Heap)
variable {W0 : World} {P : Program}
set_option maxHeartbeats 8000000
def kvR (l : LLayer) (x : List Int) (r : Int) : Int := greatI (greatI r (wideI l.k (normI x l.gain1))) (wideI l.v (normI x l.gain1))
def tokK (m : LModel) (past : List LCell) (t n : Nat) : List (List LPart) := past.map (fun c => c.keys.getD n default) ++ [keysI m (m.layers.getD n default) past.length (tokX m past t n).1]
def tokV (m : LModel) (past : List LCell) (t n : Nat) : List (List LPart) := past.map (fun c => c.values.getD n default) ++ [valsI m (m.layers.getD n default) (tokX m past t n).1]
def tokR (m : LModel) (past : List LCell) (t : Nat) (r : Int) : Nat → Int
 | 0 => r
 | n + 1 => stepR m (m.layers.getD n default) past.length (tokX m past t n).1 (tokK m past t n) (tokV m past t n) (kvR (m.layers.getD n default) (tokX m past t n).1 (tokR m past t r n))
def tokS (m : LModel) (past : List LCell) (t : Nat) (s : Int) : Nat → Int
 | 0 => s
 | n + 1 => stepS m (m.layers.getD n default) past.length (tokX m past t n).1 (tokK m past t n) (tokS m past t s n)
def tokRE (m : LModel) (past : List LCell) (t : Nat) (r : Int) : Int := greatI (tokR m past t r m.layers.length) (logitsI m past t)
def tokSE (m : LModel) (past : List LCell) (t : Nat) (s : Int) : Int := tokS m past t s m.layers.length
def TokA (N : Nat) (g : H2) (y : X) (c : LCell) (lg : List Int) : Prop := ∃ w1 w2 v b1 b2 b3, y = .tp [.st [w1, w2], v, .raw (.bool true)] ∧ OT g b1 w1 (.l 1 (rPartSS c.keys)) ∧ OT g b2 w2 (.l 1 (rPartSS c.values)) ∧ OT g b3 v (.l 1 (ints lg)) ∧ Bl N (hn g .mk) (b1 ++ b2 ++ b3)
theorem tok_keys {m : LModel} {past : List LCell} {t n : Nat} : (tokX m past t (n + 1)).2.keys = (tokX m past t n).2.keys ++ [keysI m (m.layers.getD n default) past.length (tokX m past t n).1] := rfl
theorem tok_vals {m : LModel} {past : List LCell} {t n : Nat} : (tokX m past t (n + 1)).2.values = (tokX m past t n).2.values ++ [valsI m (m.layers.getD n default) (tokX m past t n).1] := rfl
theorem flat_snocP {l : List (List LPart)} {k : List LPart} : ((l ++ [k]).map ePartS).flatten = (l.map ePartS).flatten ++ [.l 2 (rPartS k)] := by
 rw [List.map_append, List.flatten_append]
 rfl
theorem tokenA_ok {F : Nat → Adr} {m : LModel} {p : Option Nat} {r s : Int} {fp : Adr} {past : List LCell} {t : Nat} {g : H2} (mt : Mt p g r s) (ht : ModT m) (hp : ∀ c ∈ past, CellT m c) (hpl : (past.length : Int) < m.context) (htk : t < m.embed.length) (hsz : m.embed.length ≤ 1048576) :
  WC2 Tryz.prog W0 64 [.st (xRun F m (metV p)), .sl fp 2 (rCellS past), .raw (.int .i64 t)] g (fun y g' => OnM p g g' ∧ Mt p g' (tokRE m past t r) (tokSE m past t s) ∧ TokA (hn g .mk) g' y (cellI m past t) (logitsI m past t)) := by
 have hct := (turns_t ht.turns).1
 have hnl := ht.nl
 have hrow := ht.row t htk
 have hd := ht.dim
 refine begins [[0, 1, 2], [1, 2, 3, 6], [1, 2, 3, 6, 9], [1, 3, 6, 9, 10], [1, 3, 6, 9, 10, 11], [1, 3, 6, 9, 10, 11, 36, 37], [1, 3, 6, 9, 10, 11, 36, 37], [1, 3, 6, 9, 10, 11, 12, 36, 37], [1, 3, 6, 9, 10, 11, 12, 13, 14, 15, 36, 37], [6], [1, 3, 6, 9, 10, 11, 12, 13, 14, 36, 37], [1, 3, 6, 9, 10, 11, 12, 13, 14, 36, 37], [1, 3, 6, 9, 10, 11, 12, 13, 14, 36, 37], [1, 3, 6, 9, 10, 11, 12, 13, 14, 16, 17, 36, 37], [1, 3, 6, 9, 10, 11, 12, 13, 14, 16, 17, 36, 37, 66, 67, 68], [1, 3, 6, 9, 10, 11, 12, 13, 14, 16, 17, 36, 37, 66, 67, 68], [1, 3, 6, 9, 10, 11, 12, 13, 14, 16, 17, 19, 36, 37, 66, 67, 68], [1, 3, 6, 9, 10, 11, 12, 13, 14, 16, 17, 19, 36, 37, 66, 67, 68], [1, 3, 6, 9, 10, 11, 12, 13, 14, 16, 17, 36, 37, 66, 67, 68], [1, 3, 6, 9, 10, 11, 12, 13, 14, 16, 17, 36, 37], [1, 3, 6, 9, 10, 11, 15, 36, 37], [6], [1, 3, 6, 9, 10, 11, 36, 37], [3, 6, 9, 10], [3, 6, 9, 20, 21], [6], [3, 6, 9, 20], [3, 6, 9, 21, 22], [6], [3, 6, 9, 22], [3, 6, 9, 22], [6, 9, 22]] Tryz.func64 rfl (rs := [.cell 6 37, .tmp 7, .tmp 8]) rfl rfl ?_
 intro wf
 have hNp : ∀ b, p = some b → b < hn g .mk + 3 := fun b e => by have := (mt b e).1; omega
 have p0 : p ≠ some (hn g .mk) := fun e => by have := (mt _ e).1; omega
 have p1 : p ≠ some (hn g .mk + 1) := fun e => by have := (mt _ e).1; omega
 have p2 : p ≠ some (hn g .mk + 1 + 1) := fun e => by have := (mt _ e).1; omega
 have hne1 : (hn g .mk == hn g .mk + 1) = false := by simp
 have hne2 : (hn g .mk == hn g .mk + 1 + 1) = false := zne
 have hne3 : (hn g .mk + 1 == hn g .mk + 1 + 1) = false := by simp
 have hne4 : (hn g .mk + 1 + 1 == hn g .mk + 1) = false := by simp
 repeat (first | rw [ko] | rw [kr] | simp -dsimp -implicitDefEqProofs only [go_sem, sQ1, sQ2, hoo, hne1, hne2, htk])
 refine pw_intro (PI.pw (cloneI_ok (zs := m.embed.getD t default) (by omega))) ?_
 rintro _ n1 hn1 ⟨⟨f1, rfl⟩, _⟩
 simp only [hn_push, hn_set] at hn1
 repeat (first | rw [ko] | rw [kr] | simp -dsimp -implicitDefEqProofs only [go_sem, sQ1, hoo, hne1, hne2])
 refine lz_keep [1, 3, 6, 9, 11, 36] (fun mm e h' => ∃ (i : Nat) (fx : Adr) (k1 v1 : X) (bs bs' : List Nat), OnM p g h' ∧ hn g .mk + 3 ≤ hn h' .mk ∧ Mt p h' (tokR m past t r i) (tokS m past t s i) ∧ hg h' (hn g .mk) .mk = some ⟨15, [.raw (.int .i64 m.dim), .raw (.int .i64 m.heads), .raw (.int .i64 m.context), .sl (F 3) 2 (rMergeS m.merges), .sl (F 4) 1 (rIntSS m.embed), .sl (F 5) 32 (rLayerS m.layers), .sl (F 6) 1 (ints m.gainEnd), .raw (.int .i64 m.head.width), .sl (F 8) 1 (rIntSS m.head.rows), .sl (F 9) 1 (rIntSS m.head.scales), .raw (.int .i64 m.head.mul), .raw (.int .i64 m.head.shift), .sl (F 12) 1 (rIntSS m.turns.cos), .sl (F 13) 1 (rIntSS m.turns.sin), .raw (metV p)]⟩ ∧ hg h' (hn g .mk + 1) .mk = some ⟨2, [.raw (.slice none 0 0), .raw (.slice none 0 0)]⟩ ∧ hg h' (hn g .mk + 1 + 1) .mk = some ⟨2, [k1, v1]⟩ ∧ look e 37 .mk = .raw (.int .i64 (i : Nat)) ∧ look e 10 .mk = .sl fx 1 (ints (tokX m past t i).1) ∧ mm + i = m.layers.length ∧ TwoG (hn g .mk + 3) h' k1 v1 i (tokX m past t i).2 bs bs') m.layers.length ?_ ?_
 ·refine ⟨0, f1, _, _, [], [], ?_, by simp only [hn_up]; omega, ?_, by simp -dsimp -implicitDefEqProofs only [go_sem, hoo, hne1, hne2], by simp -dsimp -implicitDefEqProofs only [go_sem, hoo, hne3], by simp -dsimp -implicitDefEqProofs only [go_sem, hoo], zsm, by simp -dsimp -implicitDefEqProofs only [go_sem, sQ1] <;> rfl, by omega, TwoG.nil⟩
  ·exact OnM.up (OnM.put (OnM.push (OnM.push (OnM.push OnM.refl))) (by omega)) (by simp only [hn_push, hn_set]; omega)
  ·exact Mt.up (Mt.put (mt.push.push.push) (mt.ne (by omega))) (by simp only [hn_push, hn_set]; omega)
 rintro mm e h' hks ⟨i, fx, k1, v1, bs, bs', onL, nn, mtL, r1, r2, r3, ei, ex, hm, tg⟩
 simp -dsimp -implicitDefEqProofs only [go_sem, sQ1] at hks
 by_cases q1 : (i : Int) < (m.layers.length : Int)
 ·have q2 : i < m.layers.length := by omega
  have w1 := zwrs i (by omega)
  have hxv : VecM m 500 (tokX m past t i).1 := tok_ok ht htk (Nat.le_of_lt q2)
  have hlay := ht.lay i q2
  have kok := keys_ok (p := past.length) ht hlay hxv
  have vok := vals_ok ht hlay hxv
  have kat : PartsM m (tokK m past t i) := keysAt_ok ht hp q2 kok
  have vat : PartsM m (tokV m past t i) := valsAt_ok ht hp q2 vok
  have cG := Gr.cell tg.1
  have cG2 := Gr.cell tg.2.1
  repeat (first | rw [ko] | rw [kr] | simp -dsimp -implicitDefEqProofs only [go_sem, sQ1, hks, ei, ex, q1, r1])
  refine wz_intro (keyValueA_ok (F := F) (k := past.length) mtL ht q2 hpl (hxv.mono (by omega))) ?_
  rintro _ g1 ⟨on1, mt1, wk, wv, b3, b4, rfl, ok, ov, bl⟩
  have nn1 := on1.1
  have ck := OT.cell ok
  have cv := OT.cell ov
  have r11 : hg g1 (hn g .mk) .mk = _ := (on1.2 (hn g .mk) (by omega) p0).trans r1
  have r12 : hg g1 (hn g .mk + 1) .mk = _ := (on1.2 (hn g .mk + 1) (by omega) p1).trans r2
  have r13 : hg g1 (hn g .mk + 1 + 1) .mk = _ := (on1.2 (hn g .mk + 1 + 1) (by omega) p2).trans r3
  have tg1 := tg.on on1 mtL hNp
  repeat (first | rw [ko] | rw [kr] | simp -dsimp -implicitDefEqProofs only [go_sem, sQ1, sQ3, r13, ck])
  have blk := bl.left
  have blv := bl.right
  have bld := bl.disj
  have kb : ∀ c, blockOf k1 = some c → hn g .mk + 3 ≤ c ∧ c < hn h' .mk := Gr.lt tg.1
  have vb : ∀ c, blockOf v1 = some c → hn g .mk + 3 ≤ c ∧ c < hn h' .mk := Gr.lt tg.2.1
  have bb : ∀ c ∈ bs, hn g .mk + 3 ≤ c ∧ c < hn h' .mk := Gr.bl tg.1
  have bb' : ∀ c ∈ bs', hn g .mk + 3 ≤ c ∧ c < hn h' .mk := Gr.bl tg.2.1
  refine lit_intro (cs := [wk]) rfl ?_
  intro w5 g2 hs2 l2
  have nn2 := l2.1
  repeat (first | rw [ko] | rw [kr] | simp -dsimp -implicitDefEqProofs only [go_sem])
  refine append_grF (P := Tryz.prog) (N := hn g .mk + 3) (us := [.l 2 (rPartS (keysI m (m.layers.getD i default) past.length (tokX m past t i).1))]) Go.Ai.ty_el35 Go.Ai.ty_zr156 rfl Go.Ai.ty_cl35 (by omega) (tg1.1.keep l2) hs2 (OTs.one (ok.keep l2 blk)) rfl (by omega) (fun b hb => by have := blk.2 b hb; omega) blk.1 (fun b hb hb' => by have := bb b hb; have := blk.2 b hb'; omega) (fun b e hb' => by have := kb b e; have := blk.2 b hb'; omega) (by omega) ?_
  intro g3 gr3 n3 fr3
  have on13 : ∀ c, c < hn g .mk + 3 → hg g3 c .mk = hg g1 c .mk := fun c hc => (fr3 c (by omega) (fun e => by have := kb c e; omega)).trans (l2.2 c (by omega))
  have r31 : hg g3 (hn g .mk) .mk = _ := (on13 _ (by omega)).trans r11
  have r32 : hg g3 (hn g .mk + 1) .mk = _ := (on13 _ (by omega)).trans r12
  have r33 : hg g3 (hn g .mk + 1 + 1) .mk = _ := (on13 _ (by omega)).trans r13
  have ov3 : OT g3 b4 wv _ := (ov.keep l2 blv).frame fun c hc => fr3 c (by have := (blv.2 c hc).2; omega) (fun e => by have := kb c e; have := (blv.2 c hc).1; omega)
  have gv3 : Gr _ g3 v1 _ _ _ _ := (tg1.2.1.keep l2).frame (by omega) fun c hc => fr3 c (by have : c < hn h' .mk := hc.elim (fun h => (bb' c h).2) (fun h => (vb c h).2); omega) (fun e => by
   have := tg.2.2.2.1 c e
   rcases hc with h | h
   ·exact this.1 h
   ·exact this.2 h)
  have mt3 : Mt p g3 _ _ := Mt.below mt1 hNp (by omega) on13
  have on3 : OnM p g g3 := OnM.below (onL.trans on1) (by omega) (by omega) on13
  repeat (first | rw [ko] | rw [kr] | simp -dsimp -implicitDefEqProofs only [go_sem, sQ1, sQ3, r33, cv])
  refine lit_intro (cs := [wv]) rfl ?_
  intro w6 g4 hs4 l4
  have nn4 := l4.1
  simp only [hn_set] at nn4
  have e43 : ∀ c, c < hn g3 .mk → hg g4 c .mk = hg (g3.set (hn g .mk + 1 + 1) ⟨2, [.raw (.slice (some ⟨hn g2 .mk, 0, none⟩) (i + 1) (i + 1)), v1]⟩) c .mk := fun c hc => l4.2 c (by rw [hn_set]; exact hc)
  have r41 : hg g4 (hn g .mk) .mk = _ := (e43 _ (by omega)).trans (by simp -dsimp -implicitDefEqProofs only [go_sem, hne2, r31] <;> rfl)
  have r42 : hg g4 (hn g .mk + 1) .mk = _ := (e43 _ (by omega)).trans (by simp -dsimp -implicitDefEqProofs only [go_sem, hne3, r32] <;> rfl)
  have r43 : hg g4 (hn g .mk + 1 + 1) .mk = _ := (e43 _ (by omega)).trans (by simp -dsimp -implicitDefEqProofs only [go_sem, hoo] <;> rfl)
  have gk4 : Gr _ g4 _ _ _ _ _ := (gr3.put (c := hn g .mk + 1 + 1) (by omega)).keep l4
  have gv4 : Gr _ g4 v1 _ _ _ _ := (gv3.put (c := hn g .mk + 1 + 1) (by omega)).keep l4
  have ov4 : OT g4 b4 wv _ := (ov3.put (c := hn g .mk + 1 + 1) blv (by omega)).keep l4 (blv.wide (Nat.le_refl _) (by rw [hn_set]; omega))
  repeat (first | rw [ko] | rw [kr] | simp -dsimp -implicitDefEqProofs only [go_sem])
  refine append_grF (P := Tryz.prog) (N := hn g .mk + 3) (us := [.l 2 (rPartS (valsI m (m.layers.getD i default) (tokX m past t i).1))]) Go.Ai.ty_el35 Go.Ai.ty_zr156 rfl Go.Ai.ty_cl35 (by omega) gv4 hs4 (OTs.one ov4) rfl (by omega) (fun b hb => by have := blv.2 b hb; omega) blv.1 (fun b hb hb' => by have := bb' b hb; have := blv.2 b hb'; omega) (fun b e hb' => by have := vb b e; have := blv.2 b hb'; omega) (by omega) ?_
  intro g5 gr5 n5 fr5
  have on15 : ∀ c, c < hn g .mk + 2 → hg g5 c .mk = hg g1 c .mk := fun c hc => (fr5 c (by omega) (fun e => by have := vb c e; omega)).trans ((e43 c (by omega)).trans (by rw [hg_set, show (c == hn g .mk + 1 + 1) = false by simp; omega]; exact on13 c (by omega)))
  have r51 : hg g5 (hn g .mk) .mk = _ := (fr5 _ (by omega) (fun e => by have := vb _ e; omega)).trans r41
  have r52 : hg g5 (hn g .mk + 1) .mk = _ := (fr5 _ (by omega) (fun e => by have := vb _ e; omega)).trans r42
  have r53 : hg g5 (hn g .mk + 1 + 1) .mk = _ := (fr5 _ (by omega) (fun e => by have := vb _ e; omega)).trans r43
  have gk5 : Gr _ g5 _ _ _ _ _ := gk4.frame (by omega) fun c hc => fr5 c (by
   have : c < hn g3 .mk := hc.elim (fun h => (gr3.bl c h).2) (fun h => (gr3.lt c h).2)
   omega) (fun e => by
   have := vb c e
   rcases hc with h | h
   ·rcases List.mem_append.1 h with h | h
    ·exact tg.2.2.2.2 c e h
    ·have := (blk.2 c h).1; omega
   ·simp only [blockOf, Option.some.injEq] at h; omega)
  have tg5 : TwoG (hn g .mk + 3) g5 (.raw (.slice (some ⟨hn g2 .mk, 0, none⟩) (i + 1) (i + 1))) (.raw (.slice (some ⟨hn g4 .mk, 0, none⟩) (i + 1) (i + 1))) (i + 1) (tokX m past t (i + 1)).2 (bs ++ b3) (bs' ++ b4) := by
   refine ⟨by rw [tok_keys, flat_snocP]; exact gk5, by rw [tok_vals, flat_snocP]; exact gr5, ?_, ?_, ?_⟩
   ·intro b hb hb'
    rcases List.mem_append.1 hb with h | h <;> rcases List.mem_append.1 hb' with h' | h'
    ·exact tg.2.2.1 b h h'
    ·have := bb b h; have := blv.2 b h'; omega
    ·have := blk.2 b h; have := bb' b h'; omega
    ·exact bld b h h'
   ·intro b e
    simp only [blockOf, Option.some.injEq] at e
    subst e
    refine ⟨fun hb' => ?_, by simp only [blockOf, ne_eq, Option.some.injEq]; omega⟩
    rcases List.mem_append.1 hb' with h' | h'
    ·have := bb' _ h'; omega
    ·have := blv.2 _ h'; omega
   ·intro b e hb
    simp only [blockOf, Option.some.injEq] at e
    subst e
    rcases List.mem_append.1 hb with h | h
    ·have := bb _ h; omega
    ·have := blk.2 _ h; omega
  repeat (first | rw [ko] | rw [kr] | simp -dsimp -implicitDefEqProofs only [go_sem, sQ1, sQ3, r53])
  have ok5 : OT g5 b3 wk _ := (((((ok.keep l2 blk).frame fun c hc => fr3 c (by have := (blk.2 c hc).2; omega) (fun e => by have := kb c e; have := (blk.2 c hc).1; omega)).put (c := hn g .mk + 1 + 1) blk (by omega)).keep l4 (blk.wide (Nat.le_refl _) (by rw [hn_set]; omega))).frame fun c hc => fr5 c (by have := (blk.2 c hc).2; omega) (fun e => by have := vb c e; have := (blk.2 c hc).1; omega))
  have ov5 : OT g5 b4 wv _ := ov4.frame fun c hc => fr5 c (by have := (blv.2 c hc).2; omega) (fun e => by have := vb c e; have := (blv.2 c hc).1; omega)
  have on15' : ∀ c, c < hn g .mk → hg g5 c .mk = hg g1 c .mk := fun c hc => on15 c (by omega)
  have hNp0 : ∀ b, p = some b → b < hn g .mk := fun b e => (mt b e).1
  have mt5 : Mt p g5 _ _ := Mt.below mt1 hNp0 (by omega) on15'
  have on5 : OnM p g g5 := OnM.below (onL.trans on1) (Nat.le_refl _) (by omega) on15'
  generalize hS : g5.set (hn g .mk + 1 + 1) ⟨2, [.raw (.slice (some ⟨hn g2 .mk, 0, none⟩) (i + 1) (i + 1)), .raw (.slice (some ⟨hn g4 .mk, 0, none⟩) (i + 1) (i + 1))]⟩ = S5
  have nS : hn S5 .mk = hn g5 .mk := by rw [← hS, hn_set]
  have rS1 : hg S5 (hn g .mk) .mk = _ := (show _ = hg g5 (hn g .mk) .mk by rw [← hS, hg_set, hne2]; rfl).trans r51
  have rS2 : hg S5 (hn g .mk + 1) .mk = _ := (show _ = hg g5 (hn g .mk + 1) .mk by rw [← hS, hg_set, hne3]; rfl).trans r52
  have rS3 : hg S5 (hn g .mk + 1 + 1) .mk = some ⟨2, [.raw (.slice (some ⟨hn g2 .mk, 0, none⟩) (i + 1) (i + 1)), .raw (.slice (some ⟨hn g4 .mk, 0, none⟩) (i + 1) (i + 1))]⟩ := by rw [← hS, hg_set, show (hn g .mk + 1 + 1 == hn g .mk + 1 + 1) = true by simp]; rfl
  have tgS : TwoG (hn g .mk + 3) S5 (.raw (.slice (some ⟨hn g2 .mk, 0, none⟩) (i + 1) (i + 1))) (.raw (.slice (some ⟨hn g4 .mk, 0, none⟩) (i + 1) (i + 1))) (i + 1) (tokX m past t (i + 1)).2 (bs ++ b3) (bs' ++ b4) := by rw [← hS]; exact ⟨tg5.1.put (by omega), tg5.2.1.put (by omega), tg5.2.2⟩
  have okS : OT S5 b3 wk (.l 2 (rPartS (keysI m (m.layers.getD i default) past.length (tokX m past t i).1))) := by rw [← hS]; exact ok5.put blk (by omega)
  have ovS : OT S5 b4 wv (.l 2 (rPartS (valsI m (m.layers.getD i default) (tokX m past t i).1))) := by rw [← hS]; exact ov5.put blv (by omega)
  have mtS : Mt p S5 (kvR (m.layers.getD i default) (tokX m past t i).1 (tokR m past t r i)) (tokS m past t s i) := by rw [← hS]; exact mt5.put (by cases p with | none => rfl | some b => have := hNp0 b rfl; simp; omega)
  have onS : OnM p g S5 := by rw [← hS]; exact OnM.put on5 (by omega)
  have kl : (past.map fun c => c.keys.getD i default).length = past.length := List.length_map _
  have vl : (past.map fun c => c.values.getD i default).length = past.length := List.length_map _
  clear hS
  refine lz_keep [1, 3, 6, 9, 10, 11, 12, 13, 14, 36, 37, 66, 67] (fun m2 e2 h2 => ∃ (j b16 b17 : Nat), S5.le h2 ∧ hn S5 .mk ≤ b16 ∧ hn S5 .mk ≤ b17 ∧ b16 ≠ b17 ∧ RowF ePartS 1 h2 b16 ((past.map fun c => c.keys.getD i default).take j) ∧ RowF ePartS 1 h2 b17 ((past.map fun c => c.values.getD i default).take j) ∧ look e2 68 .mk = .raw (.int .i64 (j : Nat)) ∧ look e2 16 .mk = .raw (.slice (some ⟨b16, 0, none⟩) j j) ∧ look e2 17 .mk = .raw (.slice (some ⟨b17, 0, none⟩) j j) ∧ m2 + j = past.length) past.length ?_ ?_
  ·have hnS : (hn S5 .mk == hn S5 .mk + 1) = false := by simp
   exact ⟨0, hn S5 .mk, hn S5 .mk + 1, le_push (le_push (H2.le.refl _)), by omega, by omega, by omega, ⟨by simp only [hn_push]; omega, [], by simp -dsimp -implicitDefEqProofs only [go_sem, hoo, hnS], .nil⟩, ⟨by simp only [hn_push]; omega, [], by simp -dsimp -implicitDefEqProofs only [go_sem, hoo], .nil⟩, zsm, by simp -dsimp -implicitDefEqProofs only [go_sem, sQ1, nS], by simp -dsimp -implicitDefEqProofs only [go_sem, sQ1, nS], by omega⟩
  rintro m2 e2 h2 hks2 ⟨j, b16, b17, leS, n16, n17, ne67, rf16, rf17, ej, e16, e17, hm2⟩
  simp -dsimp -implicitDefEqProofs only [go_sem, sQ1] at hks2
  have l16 : ((past.map fun c => c.keys.getD i default).take j).length = j := by rw [List.length_take, kl]; omega
  have l17 : ((past.map fun c => c.values.getD i default).take j).length = j := by rw [List.length_take, vl]; omega
  have lt16 := rf16.1
  have lt17 := rf17.1
  have nSl := leS.1
  by_cases p1' : (j : Int) < (past.length : Int)
  ·have p2' : j < past.length := by omega
   have cj := hp _ (getD_mem p2')
   have q3 : i < (past.getD j default).keys.length := by rw [cj.1]; exact q2
   have q4 : i < (past.getD j default).values.length := by rw [cj.2.1]; exact q2
   have w2 := zwrs j (by omega)
   repeat (first | rw [ko] | rw [kr] | simp -dsimp -implicitDefEqProofs only [go_sem, sQ1, sQ2, sQ3, hks2, ej, e16, e17, p1', p2', q3, hoo])
   refine appF (P := Tryz.prog) (a := (past.getD j default).keys.getD i default) elePS Go.Ai.ty_el35 Go.Ai.ty_zr156 rfl Go.Ai.ty_cl35 (by omega) (RowF.keep rf16 (by simp only [hn_push]; omega) (by first | rw [hg_push, show (b16 == hn h2 .mk) = false by simp; omega]; rfl | (rw [hg_set, hg_push, show (b16 == hn h2 .mk) = false by simp; omega]; rfl))) (by omega) (by omega) ?_
   intro g7 rf7 n7 fr7
   simp only [hn_push] at rf7 n7 fr7
   have row7 : hg g7 (hn h2 .mk) .mk = _ := (fr7 (hn h2 .mk) (by omega) (by omega)).trans (by simp -dsimp -implicitDefEqProofs only [go_sem, hoo] <;> rfl)
   have o7 : ∀ c, c < hn h2 .mk → c ≠ b16 → hg g7 c .mk = hg h2 c .mk := fun c hc hne => (fr7 c (by omega) hne).trans (by first | rw [hg_push, show (c == hn h2 .mk) = false by simp; omega]; rfl | (rw [hg_set, hg_push, show (c == hn h2 .mk) = false by simp; omega]; rfl))
   repeat (first | rw [ko] | rw [kr] | simp -dsimp -implicitDefEqProofs only [go_sem, sQ1, sQ3, q4, row7])
   refine appF (P := Tryz.prog) (a := (past.getD j default).values.getD i default) elePS Go.Ai.ty_el35 Go.Ai.ty_zr156 rfl Go.Ai.ty_cl35 (by omega) (RowF.keep rf17 (by omega) (o7 b17 lt17 (fun e => ne67 e.symm))) (by omega) (by omega) ?_
   intro g8 rf8 n8 fr8
   repeat (first | rw [ko] | rw [kr] | simp -dsimp -implicitDefEqProofs only [go_sem, sQ1, w2])
   refine nx_keep (m2 - 1) (by omega) zsm ⟨j + 1, hn h2 .mk + 1 + 1, hn g7 .mk + 1, ?_, by omega, by omega, by omega, ?_, ?_, zsm, zsm, zsm, by omega⟩
   ·exact ⟨by omega, fun c hc => (fr8 c (by omega) (by omega)).trans ((o7 c (by omega) (by omega)).trans (leS.2 c hc))⟩
   ·rw [mapL_snoc p2']
    exact RowF.keep rf7 (by omega) (fr8 _ (by omega) (by omega))
   ·rw [mapL_snoc p2']
    exact rf8
  have rh1 : hg h2 (hn g .mk) .mk = _ := (leS.2 _ (by omega)).trans rS1
  have hj : j = past.length := by omega
  rw [hj, ← kl, List.take_length] at rf16
  rw [hj, ← vl, List.take_length] at rf17
  repeat (first | rw [ko] | rw [kr] | simp -dsimp -implicitDefEqProofs only [go_sem, sQ1, hks2, ej, e16, e17, p1'])
  obtain ⟨cs16, ow16, er16⟩ := rf16.own (Nat.zero_le b16)
  obtain ⟨cs17, ow17, er17⟩ := rf17.own (Nat.zero_le b17)
  have row16 : hg h2 b16 .mk = some ⟨1, cs16⟩ := by
   obtain ⟨_, h⟩ := ow16
   rcases h with ⟨h, _⟩ | ⟨q, e, _, _, h⟩
   ·cases h
   ·cases e; exact h
  have row17 : hg h2 b17 .mk = some ⟨1, cs17⟩ := by
   obtain ⟨_, h⟩ := ow17
   rcases h with ⟨h, _⟩ | ⟨q, e, _, _, h⟩
   ·cases h
   ·cases e; exact h
  rw [kl, ← hj] at ow16
  rw [vl, ← hj] at ow17
  refine dt_intro (.op 0 [] (.op 1 [] (.op 2 [] (.op 3 [] (.op 4 [] (.op 5 [] (.op 8 [] (.op 9 [] (.alt (.op 6 [0] (.alt (.op 7 [0] (.op 10 [0] (.op 11 [0] (.op 12 [] (.op 13 [] (.op 14 [] (.op 15 [] (.op 16 [] (.op 17 [] .nil))))))))) (.op 10 [0] (.op 7 [0] (.op 11 [0] (.op 12 [] (.op 13 [] (.op 14 [] (.op 15 [] (.op 16 [] (.op 17 [] .nil))))))))))) (.op 10 [0] (.op 6 [0] (.op 7 [0] (.op 11 [0] (.op 12 [] (.op 13 [] (.op 14 [] (.op 15 [] (.op 16 [] (.op 17 [] .nil))))))))))))))))))) (by kernel_rfl) ?_
  repeat (first | rw [ko] | rw [kr] | simp -dsimp -implicitDefEqProofs only [go_sem, sQ1, rh1])
  rw [run_alt]
  refine ⟨?_, ?_⟩
  ·repeat (first | rw [ko] | rw [kr] | simp -dsimp -implicitDefEqProofs only [go_sem, sQ3, ck])
   refine lit_introK (cs := [wk]) rfl ?_
   intro lwk ga hsk lega nga
   have frga : ∀ c, c < hn h2 .mk → hg ga c .mk = hg h2 c .mk := fun c hc => lega.2 c hc
   have ocga : ∀ c, c < hn h2 .mk → c ≠ b16 → c ≠ b17 → hg ga c .mk = hg h2 c .mk := fun c hc ha hb => (frga c (by omega)).trans (rfl)
   have r16ga := (frga b16 (by omega)).trans row16
   have r17ga := (frga b17 (by omega)).trans row17
   have ekga : hg ga (hn h2 .mk) .mk = hg ga (hn h2 .mk) .mk := rfl
   have rgga : hg ga (hn g .mk) .mk = _ := (frga _ (by omega)).trans rh1
   try (rw [kq]; refine ⟨by simp -dsimp -implicitDefEqProofs only [go_sem, sQ1, rgga], ?_⟩)
   repeat (first | rw [ko] | rw [kr] | simp -dsimp -implicitDefEqProofs only [go_sem, sQ1, sQ2, sQ3, sQ4, sQ5, sQ6, sQ7, hks2, ej, e16, e17, p1', rh1, ck, cv, rgga])
   rw [run_alt]
   refine ⟨?_, ?_⟩
   ·repeat (first | rw [ko] | rw [kr] | simp -dsimp -implicitDefEqProofs only [go_sem, sQ1])
    refine append_new (P := Tryz.prog) (N := 0) Go.Ai.ty_el35 Go.Ai.ty_zr156 rfl Go.Ai.ty_cl35 (⟨ow16.1, .inr ⟨b16, rfl, Nat.zero_le _, by omega, r16ga⟩⟩ : Own 0 ga (.raw (.slice (some ⟨b16, 0, none⟩) j j)) (0 + 1) j cs16) (hsk ga ekga) rfl (by simp only [List.all_cons, List.all_nil, ck.2.1]; rfl) (by have : Go.Ai.most = 1099511627776 := rfl; omega) ?_
    intro gb rowkgb ngb hgb
    have frgb : ∀ c, c < hn ga .mk → c ≠ b16 → hg gb c .mk = hg ga c .mk := fun c hc hne => hgb c hc (by simp only [blockOf, ne_eq, Option.some.injEq]; omega)
    have ocgb : ∀ c, c < hn h2 .mk → c ≠ b16 → c ≠ b17 → hg gb c .mk = hg h2 c .mk := fun c hc ha hb => (frgb c (by omega) (by omega)).trans (ocga c hc ha hb)
    have r17gb := (frgb b17 (by omega) (by omega)).trans r17ga
    have rggb : hg gb (hn g .mk) .mk = _ := (frgb _ (by omega) (by omega)).trans rgga
    try (rw [kq]; refine ⟨by simp -dsimp -implicitDefEqProofs only [go_sem, sQ1, rggb], ?_⟩)
    repeat (first | rw [ko] | rw [kr] | simp -dsimp -implicitDefEqProofs only [go_sem, sQ3, cv])
    refine lit_introK (cs := [wv]) rfl ?_
    intro lwv gc hsv legc ngc
    have frgc : ∀ c, c < hn gb .mk → hg gc c .mk = hg gb c .mk := fun c hc => legc.2 c hc
    have ocgc : ∀ c, c < hn h2 .mk → c ≠ b16 → c ≠ b17 → hg gc c .mk = hg h2 c .mk := fun c hc ha hb => (frgc c (by omega)).trans (ocgb c hc ha hb)
    have rowkgc := (frgc _ (by omega)).trans rowkgb
    have r17gc := (frgc b17 (by omega)).trans r17gb
    have evgc : hg gc (hn gb .mk) .mk = hg gc (hn gb .mk) .mk := rfl
    have rggc : hg gc (hn g .mk) .mk = _ := (frgc _ (by omega)).trans rggb
    try (rw [kq]; refine ⟨by simp -dsimp -implicitDefEqProofs only [go_sem, sQ1, rggc], ?_⟩)
    repeat (first | rw [ko] | rw [kr] | simp -dsimp -implicitDefEqProofs only [go_sem])
    refine append_new (P := Tryz.prog) (N := 0) Go.Ai.ty_el35 Go.Ai.ty_zr156 rfl Go.Ai.ty_cl35 (⟨ow17.1, .inr ⟨b17, rfl, Nat.zero_le _, by omega, r17gc⟩⟩ : Own 0 gc (.raw (.slice (some ⟨b17, 0, none⟩) j j)) (0 + 1) j cs17) (hsv gc evgc) rfl (by simp only [List.all_cons, List.all_nil, cv.2.1]; rfl) (by have : Go.Ai.most = 1099511627776 := rfl; omega) ?_
    intro gd rowvgd ngd hgd
    have frgd : ∀ c, c < hn gc .mk → c ≠ b17 → hg gd c .mk = hg gc c .mk := fun c hc hne => hgd c hc (by simp only [blockOf, ne_eq, Option.some.injEq]; omega)
    have ocgd : ∀ c, c < hn h2 .mk → c ≠ b16 → c ≠ b17 → hg gd c .mk = hg h2 c .mk := fun c hc ha hb => (frgd c (by omega) (by omega)).trans (ocgc c hc ha hb)
    have rowkgd := (frgd _ (by omega) (by omega)).trans rowkgc
    have rggd : hg gd (hn g .mk) .mk = _ := (frgd _ (by omega) (by omega)).trans rggc
    try (rw [kq]; refine ⟨by simp -dsimp -implicitDefEqProofs only [go_sem, sQ1, rggd], ?_⟩)
    repeat (first | rw [ko] | rw [kr] | simp -dsimp -implicitDefEqProofs only [go_sem, sQ1])
    have le10 : S5.le gd := ⟨by omega, fun c hc => (ocgd c (by omega) (by omega) (by omega)).trans (leS.2 c hc)⟩
    have mt10 : Mt p gd _ _ := mtS.le le10
    have on10 : OnM p g gd := onS.le le10
    have hpne : ∀ c, hn g .mk ≤ c → p ≠ some c := fun c hc e => by have := hNp0 c e; omega
    have ok10 := okS.keep le10 (blk.wide (Nat.le_refl _) (by omega))
    have ov10 := ovS.keep le10 (blv.wide (Nat.le_refl _) (by omega))
    obtain ⟨fk, hfk⟩ := mix_fz (p := fun c => p ≠ some c) (n := j + 1) rowkgd er16 ok10 (hpne _ (by omega)) (fun c hc => hpne c (by have := (blk.2 c hc).1; omega)) (by rw [kl]; omega)
    obtain ⟨fv, hfv⟩ := mix_fz (p := fun c => p ≠ some c) (n := j + 1) rowvgd er17 ov10 (hpne _ (by omega)) (fun c hc => hpne c (by have := (blv.2 c hc).1; omega)) (by rw [vl]; omega)
    have tkl : (tokK m past t i).length = past.length + 1 := by simp [tokK]
    have tvl : (tokV m past t i).length = past.length + 1 := by simp [tokV]
    refine pm_intro (PM.lend (.cons (fz_st (xs := xRun F m (metV p)) rfl) (.cons .raw (.cons .raw (.cons (fz_self rfl) (.cons hfk (.cons hfv .nil)))))) mt10 (MI.pm mt10.bar (stepR_ok (F := F) (k := past.length) (ks := tokK m past t i) (vs := tokV m past t i) mt10.bar ht q2 hpl (hxv.mono (by omega)) kat vat (by omega) (by omega) (by omega))) (fun y hy => by have := hy.2; rwa [hn_barM] at this)) ?_
    rintro _ n11 hn11 ⟨⟨f11, rfl⟩, _⟩
    have rg11 := rggd
    try (rw [kq]; refine ⟨zsm, ?_⟩)
    repeat (first | rw [ko] | rw [kr] | simp -dsimp -implicitDefEqProofs only [go_sem, sQ1, w1])
    have on11 : OnM p gd _ := OnM.up (n := n11) (OnM.gM (r := tokR m past t r (i + 1)) (s := tokS m past t s (i + 1)) (OnM.refl (p := p) (g := gd))) (by rw [hn_gM]; exact hn11)
    have rq1 := (on11.2 (hn g .mk) (by omega) p0).trans ((le10.2 (hn g .mk) (by omega)).trans rS1)
    have rq2 := (on11.2 (hn g .mk + 1) (by omega) p1).trans ((le10.2 (hn g .mk + 1) (by omega)).trans rS2)
    have rq3 := (on11.2 (hn g .mk + 1 + 1) (by omega) p2).trans ((le10.2 (hn g .mk + 1 + 1) (by omega)).trans rS3)
    have tg11 := ((tgS.on (OnM.of (p := p) le10) mtS hNp).on on11 mt10 hNp)
    exact nx_keep (mm - 1) (by omega) zsm ⟨i + 1, f11, _, _, bs ++ b3, bs' ++ b4, on10.trans on11, by simp only [hn_up]; omega, Mt.up (Mt.set mt10) (by rw [hn_gM]; exact hn11), rq1, rq2, rq3, zsm, by simp -dsimp -implicitDefEqProofs only [go_sem, sQ1] <;> rfl, by omega, tg11⟩
   ·repeat (first | rw [ko] | rw [kr] | simp -dsimp -implicitDefEqProofs only [go_sem, sQ3, cv])
    refine lit_introK (cs := [wv]) rfl ?_
    intro lwv gb hsv legb ngb
    have frgb : ∀ c, c < hn ga .mk → hg gb c .mk = hg ga c .mk := fun c hc => legb.2 c hc
    have ocgb : ∀ c, c < hn h2 .mk → c ≠ b16 → c ≠ b17 → hg gb c .mk = hg h2 c .mk := fun c hc ha hb => (frgb c (by omega)).trans (ocga c hc ha hb)
    have r16gb := (frgb b16 (by omega)).trans r16ga
    have r17gb := (frgb b17 (by omega)).trans r17ga
    have ekgb := (frgb (hn h2 .mk) (by omega)).trans ekga
    have evgb : hg gb (hn ga .mk) .mk = hg gb (hn ga .mk) .mk := rfl
    have rggb : hg gb (hn g .mk) .mk = _ := (frgb _ (by omega)).trans rgga
    try (rw [kq]; refine ⟨by simp -dsimp -implicitDefEqProofs only [go_sem, sQ1, rggb], ?_⟩)
    repeat (first | rw [ko] | rw [kr] | simp -dsimp -implicitDefEqProofs only [go_sem, sQ1])
    refine append_new (P := Tryz.prog) (N := 0) Go.Ai.ty_el35 Go.Ai.ty_zr156 rfl Go.Ai.ty_cl35 (⟨ow16.1, .inr ⟨b16, rfl, Nat.zero_le _, by omega, r16gb⟩⟩ : Own 0 gb (.raw (.slice (some ⟨b16, 0, none⟩) j j)) (0 + 1) j cs16) (hsk gb ekgb) rfl (by simp only [List.all_cons, List.all_nil, ck.2.1]; rfl) (by have : Go.Ai.most = 1099511627776 := rfl; omega) ?_
    intro gc rowkgc ngc hgc
    have frgc : ∀ c, c < hn gb .mk → c ≠ b16 → hg gc c .mk = hg gb c .mk := fun c hc hne => hgc c hc (by simp only [blockOf, ne_eq, Option.some.injEq]; omega)
    have ocgc : ∀ c, c < hn h2 .mk → c ≠ b16 → c ≠ b17 → hg gc c .mk = hg h2 c .mk := fun c hc ha hb => (frgc c (by omega) (by omega)).trans (ocgb c hc ha hb)
    have r17gc := (frgc b17 (by omega) (by omega)).trans r17gb
    have evgc := (frgc (hn ga .mk) (by omega) (by omega)).trans evgb
    have rggc : hg gc (hn g .mk) .mk = _ := (frgc _ (by omega) (by omega)).trans rggb
    try (rw [kq]; refine ⟨by simp -dsimp -implicitDefEqProofs only [go_sem, sQ1, rggc], ?_⟩)
    repeat (first | rw [ko] | rw [kr] | simp -dsimp -implicitDefEqProofs only [go_sem])
    refine append_new (P := Tryz.prog) (N := 0) Go.Ai.ty_el35 Go.Ai.ty_zr156 rfl Go.Ai.ty_cl35 (⟨ow17.1, .inr ⟨b17, rfl, Nat.zero_le _, by omega, r17gc⟩⟩ : Own 0 gc (.raw (.slice (some ⟨b17, 0, none⟩) j j)) (0 + 1) j cs17) (hsv gc evgc) rfl (by simp only [List.all_cons, List.all_nil, cv.2.1]; rfl) (by have : Go.Ai.most = 1099511627776 := rfl; omega) ?_
    intro gd rowvgd ngd hgd
    have frgd : ∀ c, c < hn gc .mk → c ≠ b17 → hg gd c .mk = hg gc c .mk := fun c hc hne => hgd c hc (by simp only [blockOf, ne_eq, Option.some.injEq]; omega)
    have ocgd : ∀ c, c < hn h2 .mk → c ≠ b16 → c ≠ b17 → hg gd c .mk = hg h2 c .mk := fun c hc ha hb => (frgd c (by omega) (by omega)).trans (ocgc c hc ha hb)
    have rowkgd := (frgd _ (by omega) (by omega)).trans rowkgc
    have rggd : hg gd (hn g .mk) .mk = _ := (frgd _ (by omega) (by omega)).trans rggc
    try (rw [kq]; refine ⟨by simp -dsimp -implicitDefEqProofs only [go_sem, sQ1, rggd], ?_⟩)
    repeat (first | rw [ko] | rw [kr] | simp -dsimp -implicitDefEqProofs only [go_sem, sQ1])
    have le10 : S5.le gd := ⟨by omega, fun c hc => (ocgd c (by omega) (by omega) (by omega)).trans (leS.2 c hc)⟩
    have mt10 : Mt p gd _ _ := mtS.le le10
    have on10 : OnM p g gd := onS.le le10
    have hpne : ∀ c, hn g .mk ≤ c → p ≠ some c := fun c hc e => by have := hNp0 c e; omega
    have ok10 := okS.keep le10 (blk.wide (Nat.le_refl _) (by omega))
    have ov10 := ovS.keep le10 (blv.wide (Nat.le_refl _) (by omega))
    obtain ⟨fk, hfk⟩ := mix_fz (p := fun c => p ≠ some c) (n := j + 1) rowkgd er16 ok10 (hpne _ (by omega)) (fun c hc => hpne c (by have := (blk.2 c hc).1; omega)) (by rw [kl]; omega)
    obtain ⟨fv, hfv⟩ := mix_fz (p := fun c => p ≠ some c) (n := j + 1) rowvgd er17 ov10 (hpne _ (by omega)) (fun c hc => hpne c (by have := (blv.2 c hc).1; omega)) (by rw [vl]; omega)
    have tkl : (tokK m past t i).length = past.length + 1 := by simp [tokK]
    have tvl : (tokV m past t i).length = past.length + 1 := by simp [tokV]
    refine pm_intro (PM.lend (.cons (fz_st (xs := xRun F m (metV p)) rfl) (.cons .raw (.cons .raw (.cons (fz_self rfl) (.cons hfk (.cons hfv .nil)))))) mt10 (MI.pm mt10.bar (stepR_ok (F := F) (k := past.length) (ks := tokK m past t i) (vs := tokV m past t i) mt10.bar ht q2 hpl (hxv.mono (by omega)) kat vat (by omega) (by omega) (by omega))) (fun y hy => by have := hy.2; rwa [hn_barM] at this)) ?_
    rintro _ n11 hn11 ⟨⟨f11, rfl⟩, _⟩
    have rg11 := rggd
    try (rw [kq]; refine ⟨zsm, ?_⟩)
    repeat (first | rw [ko] | rw [kr] | simp -dsimp -implicitDefEqProofs only [go_sem, sQ1, w1])
    have on11 : OnM p gd _ := OnM.up (n := n11) (OnM.gM (r := tokR m past t r (i + 1)) (s := tokS m past t s (i + 1)) (OnM.refl (p := p) (g := gd))) (by rw [hn_gM]; exact hn11)
    have rq1 := (on11.2 (hn g .mk) (by omega) p0).trans ((le10.2 (hn g .mk) (by omega)).trans rS1)
    have rq2 := (on11.2 (hn g .mk + 1) (by omega) p1).trans ((le10.2 (hn g .mk + 1) (by omega)).trans rS2)
    have rq3 := (on11.2 (hn g .mk + 1 + 1) (by omega) p2).trans ((le10.2 (hn g .mk + 1 + 1) (by omega)).trans rS3)
    have tg11 := ((tgS.on (OnM.of (p := p) le10) mtS hNp).on on11 mt10 hNp)
    exact nx_keep (mm - 1) (by omega) zsm ⟨i + 1, f11, _, _, bs ++ b3, bs' ++ b4, on10.trans on11, by simp only [hn_up]; omega, Mt.up (Mt.set mt10) (by rw [hn_gM]; exact hn11), rq1, rq2, rq3, zsm, by simp -dsimp -implicitDefEqProofs only [go_sem, sQ1] <;> rfl, by omega, tg11⟩
  ·repeat (first | rw [ko] | rw [kr] | simp -dsimp -implicitDefEqProofs only [go_sem, sQ3, cv])
   refine lit_introK (cs := [wv]) rfl ?_
   intro lwv ga hsv lega nga
   have frga : ∀ c, c < hn h2 .mk → hg ga c .mk = hg h2 c .mk := fun c hc => lega.2 c hc
   have ocga : ∀ c, c < hn h2 .mk → c ≠ b16 → c ≠ b17 → hg ga c .mk = hg h2 c .mk := fun c hc ha hb => (frga c (by omega)).trans (rfl)
   have r16ga := (frga b16 (by omega)).trans row16
   have r17ga := (frga b17 (by omega)).trans row17
   have evga : hg ga (hn h2 .mk) .mk = hg ga (hn h2 .mk) .mk := rfl
   have rgga : hg ga (hn g .mk) .mk = _ := (frga _ (by omega)).trans rh1
   try (rw [kq]; refine ⟨by simp -dsimp -implicitDefEqProofs only [go_sem, sQ1, rgga], ?_⟩)
   repeat (first | rw [ko] | rw [kr] | simp -dsimp -implicitDefEqProofs only [go_sem, sQ1, sQ3, ck])
   refine lit_introK (cs := [wk]) rfl ?_
   intro lwk gb hsk legb ngb
   have frgb : ∀ c, c < hn ga .mk → hg gb c .mk = hg ga c .mk := fun c hc => legb.2 c hc
   have ocgb : ∀ c, c < hn h2 .mk → c ≠ b16 → c ≠ b17 → hg gb c .mk = hg h2 c .mk := fun c hc ha hb => (frgb c (by omega)).trans (ocga c hc ha hb)
   have r16gb := (frgb b16 (by omega)).trans r16ga
   have r17gb := (frgb b17 (by omega)).trans r17ga
   have evgb := (frgb (hn h2 .mk) (by omega)).trans evga
   have ekgb : hg gb (hn ga .mk) .mk = hg gb (hn ga .mk) .mk := rfl
   have rggb : hg gb (hn g .mk) .mk = _ := (frgb _ (by omega)).trans rgga
   try (rw [kq]; refine ⟨by simp -dsimp -implicitDefEqProofs only [go_sem, sQ1, rggb], ?_⟩)
   repeat (first | rw [ko] | rw [kr] | simp -dsimp -implicitDefEqProofs only [go_sem, sQ1])
   refine append_new (P := Tryz.prog) (N := 0) Go.Ai.ty_el35 Go.Ai.ty_zr156 rfl Go.Ai.ty_cl35 (⟨ow16.1, .inr ⟨b16, rfl, Nat.zero_le _, by omega, r16gb⟩⟩ : Own 0 gb (.raw (.slice (some ⟨b16, 0, none⟩) j j)) (0 + 1) j cs16) (hsk gb ekgb) rfl (by simp only [List.all_cons, List.all_nil, ck.2.1]; rfl) (by have : Go.Ai.most = 1099511627776 := rfl; omega) ?_
   intro gc rowkgc ngc hgc
   have frgc : ∀ c, c < hn gb .mk → c ≠ b16 → hg gc c .mk = hg gb c .mk := fun c hc hne => hgc c hc (by simp only [blockOf, ne_eq, Option.some.injEq]; omega)
   have ocgc : ∀ c, c < hn h2 .mk → c ≠ b16 → c ≠ b17 → hg gc c .mk = hg h2 c .mk := fun c hc ha hb => (frgc c (by omega) (by omega)).trans (ocgb c hc ha hb)
   have r17gc := (frgc b17 (by omega) (by omega)).trans r17gb
   have evgc := (frgc (hn h2 .mk) (by omega) (by omega)).trans evgb
   have rggc : hg gc (hn g .mk) .mk = _ := (frgc _ (by omega) (by omega)).trans rggb
   try (rw [kq]; refine ⟨by simp -dsimp -implicitDefEqProofs only [go_sem, sQ1, rggc], ?_⟩)
   repeat (first | rw [ko] | rw [kr] | simp -dsimp -implicitDefEqProofs only [go_sem])
   refine append_new (P := Tryz.prog) (N := 0) Go.Ai.ty_el35 Go.Ai.ty_zr156 rfl Go.Ai.ty_cl35 (⟨ow17.1, .inr ⟨b17, rfl, Nat.zero_le _, by omega, r17gc⟩⟩ : Own 0 gc (.raw (.slice (some ⟨b17, 0, none⟩) j j)) (0 + 1) j cs17) (hsv gc evgc) rfl (by simp only [List.all_cons, List.all_nil, cv.2.1]; rfl) (by have : Go.Ai.most = 1099511627776 := rfl; omega) ?_
   intro gd rowvgd ngd hgd
   have frgd : ∀ c, c < hn gc .mk → c ≠ b17 → hg gd c .mk = hg gc c .mk := fun c hc hne => hgd c hc (by simp only [blockOf, ne_eq, Option.some.injEq]; omega)
   have ocgd : ∀ c, c < hn h2 .mk → c ≠ b16 → c ≠ b17 → hg gd c .mk = hg h2 c .mk := fun c hc ha hb => (frgd c (by omega) (by omega)).trans (ocgc c hc ha hb)
   have rowkgd := (frgd _ (by omega) (by omega)).trans rowkgc
   have rggd : hg gd (hn g .mk) .mk = _ := (frgd _ (by omega) (by omega)).trans rggc
   try (rw [kq]; refine ⟨by simp -dsimp -implicitDefEqProofs only [go_sem, sQ1, rggd], ?_⟩)
   repeat (first | rw [ko] | rw [kr] | simp -dsimp -implicitDefEqProofs only [go_sem, sQ1])
   have le10 : S5.le gd := ⟨by omega, fun c hc => (ocgd c (by omega) (by omega) (by omega)).trans (leS.2 c hc)⟩
   have mt10 : Mt p gd _ _ := mtS.le le10
   have on10 : OnM p g gd := onS.le le10
   have hpne : ∀ c, hn g .mk ≤ c → p ≠ some c := fun c hc e => by have := hNp0 c e; omega
   have ok10 := okS.keep le10 (blk.wide (Nat.le_refl _) (by omega))
   have ov10 := ovS.keep le10 (blv.wide (Nat.le_refl _) (by omega))
   obtain ⟨fk, hfk⟩ := mix_fz (p := fun c => p ≠ some c) (n := j + 1) rowkgd er16 ok10 (hpne _ (by omega)) (fun c hc => hpne c (by have := (blk.2 c hc).1; omega)) (by rw [kl]; omega)
   obtain ⟨fv, hfv⟩ := mix_fz (p := fun c => p ≠ some c) (n := j + 1) rowvgd er17 ov10 (hpne _ (by omega)) (fun c hc => hpne c (by have := (blv.2 c hc).1; omega)) (by rw [vl]; omega)
   have tkl : (tokK m past t i).length = past.length + 1 := by simp [tokK]
   have tvl : (tokV m past t i).length = past.length + 1 := by simp [tokV]
   refine pm_intro (PM.lend (.cons (fz_st (xs := xRun F m (metV p)) rfl) (.cons .raw (.cons .raw (.cons (fz_self rfl) (.cons hfk (.cons hfv .nil)))))) mt10 (MI.pm mt10.bar (stepR_ok (F := F) (k := past.length) (ks := tokK m past t i) (vs := tokV m past t i) mt10.bar ht q2 hpl (hxv.mono (by omega)) kat vat (by omega) (by omega) (by omega))) (fun y hy => by have := hy.2; rwa [hn_barM] at this)) ?_
   rintro _ n11 hn11 ⟨⟨f11, rfl⟩, _⟩
   have rg11 := rggd
   try (rw [kq]; refine ⟨zsm, ?_⟩)
   repeat (first | rw [ko] | rw [kr] | simp -dsimp -implicitDefEqProofs only [go_sem, sQ1, w1])
   have on11 : OnM p gd _ := OnM.up (n := n11) (OnM.gM (r := tokR m past t r (i + 1)) (s := tokS m past t s (i + 1)) (OnM.refl (p := p) (g := gd))) (by rw [hn_gM]; exact hn11)
   have rq1 := (on11.2 (hn g .mk) (by omega) p0).trans ((le10.2 (hn g .mk) (by omega)).trans rS1)
   have rq2 := (on11.2 (hn g .mk + 1) (by omega) p1).trans ((le10.2 (hn g .mk + 1) (by omega)).trans rS2)
   have rq3 := (on11.2 (hn g .mk + 1 + 1) (by omega) p2).trans ((le10.2 (hn g .mk + 1 + 1) (by omega)).trans rS3)
   have tg11 := ((tgS.on (OnM.of (p := p) le10) mtS hNp).on on11 mt10 hNp)
   exact nx_keep (mm - 1) (by omega) zsm ⟨i + 1, f11, _, _, bs ++ b3, bs' ++ b4, on10.trans on11, by simp only [hn_up]; omega, Mt.up (Mt.set mt10) (by rw [hn_gM]; exact hn11), rq1, rq2, rq3, zsm, by simp -dsimp -implicitDefEqProofs only [go_sem, sQ1] <;> rfl, by omega, tg11⟩
 obtain rfl : i = m.layers.length := by omega
 have hxv : VecM m 500 (tokX m past t m.layers.length).1 := tok_ok ht htk (Nat.le_refl _)
 have hge := gain_t ht.gain
 have hnx : VecM m 127 (normI (tokX m past t m.layers.length).1 m.gainEnd) := hxv.norm
 have hvl := hxv.len ht
 have hnx2 := hnx.len ht
 have hhd := with_t ht.head
 have hvoc : vocI m = 256 + (m.merges.length : Int) := rfl
 have hrl := (mat_t hhd.1).2.1
 have cG := Gr.cell tg.1
 have cG2 := Gr.cell tg.2.1
 have tc := tokX_cell (past := past) ht htk (Nat.le_refl m.layers.length)
 repeat (first | rw [ko] | rw [kr] | simp -dsimp -implicitDefEqProofs only [go_sem, sQ1, hks, ei, ex, q1, r1])
 refine pw_intro (TI.pw (normA_ok (x := (tokX m past t m.layers.length).1) (gn := m.gainEnd) (absB_mono hxv.2 (by omega)) (by omega) (by omega) (by omega) hge.2.1)) ?_
 rintro _ n3 hn3 ⟨⟨f3, rfl⟩, _⟩
 repeat (first | rw [ko] | rw [kr] | simp -dsimp -implicitDefEqProofs only [go_sem, sQ1, r1])
 refine wz_intro (wideA_ok (F := fun j => F (j + 7)) (m := m.head) hhd.1 (by omega) (by omega) hnx.2) ?_
 rintro _ g4 ⟨l4, v, rfl, ow⟩
 have nn4 := l4.1
 simp only [hn_up] at nn4 ow
 have c0 := ownI_cell ow
 have r41 : hg g4 (hn g .mk) .mk = _ := (l4.2 _ (by simp only [hn_up]; omega)).trans r1
 have r42 : hg g4 (hn g .mk + 1) .mk = _ := (l4.2 _ (by simp only [hn_up]; omega)).trans r2
 have r43 : hg g4 (hn g .mk + 1 + 1) .mk = _ := (l4.2 _ (by simp only [hn_up]; omega)).trans r3
 have leh : h'.le g4 := H2.le.trans (le_up (H2.le.refl _) hn3) l4
 have mt4 : Mt p g4 _ _ := mtL.le leh
 have on4 : OnM p g g4 := onL.le leh
 obtain ⟨b3, ov, bl3⟩ := OwnI.tree ow
 obtain ⟨b1, o1, d1, s1⟩ := Gr.tree2 (es := rPartSS (tokX m past t m.layers.length).2.keys) (tg.1.keep leh) (by rw [rPartSS_len, tc.1]) (fun e he => by obtain ⟨x, _, rfl⟩ := List.mem_map.1 he; rfl)
 obtain ⟨b2, o2, d2, s2⟩ := Gr.tree2 (es := rPartSS (tokX m past t m.layers.length).2.values) (tg.2.1.keep leh) (by rw [rPartSS_len, tc.2.1]) (fun e he => by obtain ⟨x, _, rfl⟩ := List.mem_map.1 he; rfl)
 have kb : ∀ c, c ∈ b1 → hn g .mk + 3 ≤ c ∧ c < hn h' .mk := fun c hc => (s1 c hc).elim (fun h => Gr.bl tg.1 c h) (fun h => Gr.lt tg.1 c h)
 have vb : ∀ c, c ∈ b2 → hn g .mk + 3 ≤ c ∧ c < hn h' .mk := fun c hc => (s2 c hc).elim (fun h => Gr.bl tg.2.1 c h) (fun h => Gr.lt tg.2.1 c h)
 have dis : ∀ c ∈ b1, c ∉ b2 := fun c hc hc2 => by
  rcases s1 c hc with h | h <;> rcases s2 c hc2 with h' | h'
  ·exact tg.2.2.1 c h h'
  ·exact tg.2.2.2.2 c h' h
  ·exact (tg.2.2.2.1 c h).1 h'
  ·exact (tg.2.2.2.1 c h).2 h'
 have blA : Bl (hn g .mk + 3) (hn g4 .mk) (b1 ++ b2 ++ b3) := by
  refine ⟨List.nodup_append.2 ⟨List.nodup_append.2 ⟨d1, d2, fun x hx y hy e => dis x hx (e ▸ hy)⟩, bl3.1, fun x hx y hy e => ?_⟩, fun x hx => ?_⟩
  ·subst e
   have := (bl3.2 x hy).1
   rcases List.mem_append.1 hx with h | h
   ·have := kb x h; omega
   ·have := vb x h; omega
  ·rcases List.mem_append.1 hx with h | h
   ·rcases List.mem_append.1 h with h | h
    ·have := kb x h; omega
    ·have := vb x h; omega
   ·have := bl3.2 x h; omega
 have bx1 : Bl (hn g .mk + 3) (hn g4 .mk) b1 := blA.left.left
 have bx2 : Bl (hn g .mk + 3) (hn g4 .mk) b2 := blA.left.right
 have bx3 : Bl (hn g .mk + 3) (hn g4 .mk) b3 := blA.right
 have fin : ∀ S : H2, OnM p g S → Mt p S (tokRE m past t r) (tokSE m past t s) → hn g4 .mk ≤ hn S .mk → (∀ c, hn g .mk + 3 ≤ c → hg S c .mk = hg g4 c .mk) → OnM p g S ∧ Mt p S (tokRE m past t r) (tokSE m past t s) ∧ TokA (hn g .mk) S (.tp [.st [k1, v1], v, .raw (.bool true)]) (cellI m past t) (logitsI m past t) := fun S h1 h2 h3 h4 =>
  ⟨h1, h2, k1, v1, v, b1, b2, b3, rfl, o1.frame fun c hc => h4 c (bx1.2 c hc).1, o2.frame fun c hc => h4 c (bx2.2 c hc).1, ov.frame fun c hc => h4 c (bx3.2 c hc).1, blA.wide (by omega) (by omega)⟩
 cases p with
 | none =>
  repeat (first | rw [ko] | rw [kr] | simp -dsimp -implicitDefEqProofs only [go_sem, sQ1, sQ2, r41, r42, r43, c0, cG, cG2, metV])
  exact fin _ (OnM.put on4 (by omega)) Mt.none (by rw [hn_set]; exact Nat.le_refl _) fun c hc => by rw [hg_set, show (c == hn g .mk + 1) = false by simp; omega]; rfl
 | some b =>
  obtain ⟨hb, mrow⟩ := mt4 b rfl
  have hb0 := (mt b rfl).1
  unfold metO at mrow
  have z1 : (hn g .mk == b) = false := zne
  have z2 : (hn g .mk + 1 == b) = false := zne
  have z3 : (hn g .mk + 1 + 1 == b) = false := zne
  have z4 : (b == hn g .mk + 1) = false := zne
  obtain ⟨fz, hfz⟩ := ow.lent
  repeat (first | rw [ko] | rw [kr] | simp -dsimp -implicitDefEqProofs only [go_sem, sQ1, r41, metV])
  refine dq_intro [(0, []), (1, []), (2, []), (3, []), (4, []), (5, []), (6, []), (7, []), (8, [1]), (9, []), (10, []), (11, [])] (by kernel_rfl) ?_
  repeat (first | rw [ko] | rw [kr] | simp -dsimp -implicitDefEqProofs only [go_sem, sQ1, r41, metV, mrow])
  refine pw_intro (PW.lend (.cons lent_raw (.cons hfz .nil)) (greatA_pw (l := wideI m.head (normI (tokX m past t m.layers.length).1 m.gainEnd)) (wide_to hhd.1 hnx.2) (by rw [wideI_len]; omega)) (fun y h => by rw [h]; exact .raw)) ?_
  rintro _ n5 hn5 rfl
  try (rw [kq]; refine ⟨by simp -dsimp -implicitDefEqProofs only [go_sem, sQ1, r41, metV], ?_⟩)
  repeat (first | rw [ko] | rw [kr] | simp -dsimp -implicitDefEqProofs only [go_sem, sQ1, sQ2, r42, r43, c0, cG, cG2, mrow, z2, z3])
  refine fin _ (OnM.put (OnM.setb (on4.up hn5)) (by omega)) (Mt.put (Mt.setb (r := tokRE m past t r) (s := tokSE m past t s) (by rw [hn_up]; omega)) (by simp; omega)) (by simp only [hn_set, hn_up]; exact hn5) fun c hc => ?_
  rw [hg_set, show (c == hn g .mk + 1) = false by simp; omega, hk_f, hg_set, show (c == b) = false by simp; omega]
  rfl
end Go.Bi
end
