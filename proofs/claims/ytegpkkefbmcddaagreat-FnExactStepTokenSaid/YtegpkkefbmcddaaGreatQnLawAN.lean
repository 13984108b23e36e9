/- Own lemmas that the theorem of this claim needs: the abstract machine and walks of functions. -/
import Derived.Test.YtegpkkefbmcddaaGreatQnLawAM
set_option linter.unusedSimpArgs false
set_option linter.unusedVariables false
open Nat renaming reduceBEq → sQ1, reduceAdd → sQ2, reduceLeDiff → sQ3, reduceMul → sQ4
open Int renaming reduceLE → sQ5, reduceLT → sQ6, reduceBEq → sQ7
section
set_option maxRecDepth 20000
namespace Go.Bi
open Go.Proofs
open Go.Ai (wrap_i64 Heap)
variable {W0 : World} {P : Program}
set_option maxHeartbeats 4000000
theorem shl_part {n s : Int} (h : -15 ≤ n ∧ n ≤ 15) (hs : 0 ≤ s ∧ s ≤ 4) : Go.Ai.shlI .i64 n s = n * 2 ^ s.toNat := by
 unfold Go.Ai.shlI
 have : min s.toNat IntKind.i64.bits = s.toNat := by simp only [IntKind.bits]; omega
 rw [this]
 have hp := pow_24 (m := s.toNat) (by omega)
 have := mul_abs (a := 15) (b := 16777216) h ⟨by omega, hp.2⟩
 rw [wrapS (by omega)]
theorem part_t {p : LPart} (h : partB p = true) : (0 ≤ p.shift ∧ p.shift ≤ 4) ∧ (1 ≤ p.values.length ∧ p.values.length ≤ 8) ∧ allI p.values (-15) 15 = true := by
 unfold partB at h
 simp only [Bool.and_eq_true] at h
 have := inI_tt h.2.1
 exact ⟨inI_tt h.1, by omega, h.2.2⟩
theorem putA_ok {F : Nat → Adr} {p : LPart} {g : H2} (hp : partB p = true) : TI Tryz.prog W0 236 [.st (xPart F p)] g (backI p) := by
 obtain ⟨hsh, h8, h3⟩ := part_t hp
 have h3a := allI_abs h3 (n := 15) (by omega) (by omega)
 refine begins [[0], [1], [], [1], [1, 4], [1, 4, 26, 27, 28], [1, 4, 26, 27, 28], [1, 4, 6, 26, 27, 28], [1, 4, 26, 27, 28], [4]] Tryz.func236 rfl (rs := [.tmp 2, .tmp 3]) rfl rfl ?_
 intro wf
 repeat (first | rw [ko] | rw [kr] | simp -dsimp -implicitDefEqProofs only [go_sem, hoo])
 refine wz_intro in_ok ?_
 rintro _ _ ⟨rfl, rfl⟩
 rw [inI_mk hsh.1 hsh.2]
 repeat (first | rw [ko] | rw [kr] | simp -dsimp -implicitDefEqProofs only [go_sem, sQ1, hoo])
 refine wz_intro in_ok ?_
 rintro _ _ ⟨rfl, rfl⟩
 rw [inI_mk (by omega) (by omega)]
 repeat (first | rw [ko] | rw [kr] | simp -dsimp -implicitDefEqProofs only [go_sem, sQ1, hoo])
 refine pw_intro (allIn_ok (by omega)) ?_
 rintro _ n1 hn1 rfl
 rw [hn_push] at hn1
 rw [h3]
 have hne : (hn g .mk == n1) = false := zne
 repeat (first | rw [ko] | rw [kr] | simp -dsimp -implicitDefEqProofs only [go_sem, sQ1, sQ3, hoo, hne])
 refine lz_keep [1, 26, 27] (fun m e h' => ∃ (i : Nat) (v : X), look e 28 .mk = .raw (.int .i64 (i : Nat)) ∧ look e 4 .mk = v ∧ m + i = p.values.length ∧ OwnI n1 h' v ((backI p).take i) ∧ g.le h' ∧ n1 ≤ hn h' .mk ∧ hg h' (hn g .mk) .mk = some ⟨2, [.raw (.int .i64 p.shift), .sl (F 1) 1 (ints p.values)]⟩) p.values.length ?_ ?_
 ·refine ⟨0, _, zsm, by simp -dsimp -implicitDefEqProofs only [go_sem, sQ1] <;> rfl, by omega, Own.new (by rw [hn_up]; exact Nat.le_refl _) rfl, le_push (le_up (le_push (H2.le.refl _)) (by rw [hn_push]; exact hn1)), by simp only [hn_push, hn_up]; omega, ?_⟩
  simp -dsimp -implicitDefEqProofs only [go_sem, hne, hoo]
 rintro m e h' hks ⟨i, v, e28, e4, hm, ow, hle, hn0, row⟩
 simp -dsimp -implicitDefEqProofs only [go_sem, sQ1] at hks
 by_cases q1 : (i : Int) < (p.values.length : Int)
 ·have q2 : i < p.values.length := by omega
  have w1 := zwrs i (by omega)
  have hsh0 := hsh.1
  have es := shl_part (getD_abs (by omega) h3a i) hsh
  repeat (first | rw [ko] | rw [kr] | simp -dsimp -implicitDefEqProofs only [go_sem, sQ1, hks, e28, e4, q1, q2, row, hsh0, es])
  refine wz_intro (clamp1_ok (by omega) (by omega)) ?_
  rintro _ _ ⟨rfl, rfl⟩
  repeat (first | rw [ko] | rw [kr] | simp -dsimp -implicitDefEqProofs only [go_sem, sQ1, sQ3])
  refine app1 (P := Tryz.prog) (D := fun _ => none) Go.Ai.ty_el25 Go.Ai.ty_zr3 Go.Ai.ty_cl25 (by omega) ow hle (by omega) hn0 (by rw [List.length_take]; omega) ?_
  intro v4 g4 ow4 le4 nn4 on4
  have row4 := (on4 (hn g .mk) (by omega)).trans row
  repeat (first | rw [ko] | rw [kr] | simp -dsimp -implicitDefEqProofs only [go_sem, sQ1, w1])
  exact nx_keep (m - 1) (by omega) zsm ⟨i + 1, v4, zsm, zsm, by omega, (mapL_snoc q2).symm ▸ ow4, le4, nn4, row4⟩
 ·have c1 := (ownI_cell ow).2.2
  have hi : i = (backI p).length := by rw [backI_len]; omega
  repeat (first | rw [ko] | rw [kr] | simp -dsimp -implicitDefEqProofs only [go_sem, sQ1, hks, e28, e4, q1, c1])
  rw [hi, List.take_length] at ow
  exact ⟨hle, v, rfl, ow.wide (by omega)⟩
theorem bendA_ok {x : Int} {g : H2} (hx : -127 ≤ x ∧ x ≤ 127) : WC2 Tryz.prog W0 229 [.raw (.int .i64 x)] g (fun v g' => v = .raw (.int .i64 (bendI x)) ∧ g' = g) := by
 refine begins [[0], [0], [], [0]] Tryz.func229 rfl (rs := [.tmp 2]) rfl rfl ?_
 intro wf
 repeat (first | rw [ko] | rw [kr] | simp -dsimp -implicitDefEqProofs only [go_sem])
 refine wz_intro in_ok ?_
 rintro _ g ⟨rfl, rfl⟩
 rw [inI_mk hx.1 hx.2]
 repeat (first | rw [ko] | rw [kr] | simp -dsimp -implicitDefEqProofs only [go_sem, sQ1])
 refine wz_intro (clamp1_ok (by omega) (by omega)) ?_
 rintro _ g ⟨rfl, rfl⟩
 have hc := clp_abs (x := x) (m := 128) (by omega)
 have w1 := wrapS (x := 128 + clp x 128) (by omega)
 have b := mul_abs hx (show -256 ≤ 128 + clp x 128 ∧ 128 + clp x 128 ≤ 256 by omega)
 have w2 := wrapS (x := x * (128 + clp x 128)) (by omega)
 repeat (first | rw [ko] | rw [kr] | simp -dsimp -implicitDefEqProofs only [go_sem, w1, w2])
 refine wz_intro (floorA_ok (by omega) (by omega)) ?_
 rintro _ g ⟨rfl, rfl⟩
 repeat (first | rw [ko] | rw [kr] | simp -dsimp -implicitDefEqProofs only [go_sem])
 exact ⟨rfl, rfl⟩
theorem addA_ok {f f' : Adr} {x y : List Int} {g : H2} (hx : absB 1000 x) (hy : absB 1000 y) (hl : y.length = x.length) (h8 : x.length ≤ 8) : TI Tryz.prog W0 186 [.sl f 1 (ints x), .sl f' 1 (ints y)] g (addI x y) := by
 refine begins [[0, 1], [0, 1], [], [0, 1], [0, 1, 6], [1, 6, 30, 31, 32], [1, 6, 30, 31, 32], [1, 6, 7, 8, 30, 31, 32], [1, 6, 30, 31, 32], [6]] Tryz.func186 rfl (rs := [.tmp 4, .tmp 5]) rfl rfl ?_
 intro wf
 have hle : (x.length : Int) = (y.length : Int) := by omega
 have e1 : decide (¬ (x.length : Int) = (y.length : Int)) = false := decide_eq_false (fun h => h hle)
 have e2 : ¬ (x.length : Int) > 8 := by omega
 repeat (first | rw [ko] | rw [kr] | simp -dsimp -implicitDefEqProofs only [go_sem, sQ1, e1, e2])
 refine pw_intro (allIn_ok (by omega)) ?_
 rintro _ n1 hn1 rfl
 rw [allI_absB hx (by omega)]
 repeat (first | rw [ko] | rw [kr] | simp -dsimp -implicitDefEqProofs only [go_sem, sQ1])
 refine pw_intro (allIn_ok (by omega)) ?_
 rintro _ n2 hn2 rfl
 rw [allI_absB hy (by omega)]
 repeat (first | rw [ko] | rw [kr] | simp -dsimp -implicitDefEqProofs only [go_sem, sQ1, sQ3])
 have e3 : hn g .mk ≤ n2 := Nat.le_trans hn1 hn2
 refine lz_keep [1, 30, 31] (fun m e h' => ∃ (i : Nat) (v : X), g.le h' ∧ hn g .mk ≤ hn h' .mk ∧ look e 32 .mk = .raw (.int .i64 (i : Nat)) ∧ look e 6 .mk = v ∧ m + i = x.length ∧ OwnI (hn g .mk) h' v ((addI x y).take i)) x.length ?_ ?_
 ·exact ⟨0, _, le_push (by first | exact le_up (le_up (H2.le.refl _) hn1) hn2 | exact le_up (H2.le.refl _) e3), by simp only [hn_push, hn_up]; omega, zsm, by simp -dsimp -implicitDefEqProofs only [go_sem, sQ1] <;> rfl, by omega, Own.new (by simp only [hn_up]; omega) rfl⟩
 rintro m e h' hks ⟨i, v, hle, nn, ei, ev, hm, ow⟩
 simp -dsimp -implicitDefEqProofs only [go_sem, sQ1] at hks
 have c0 := ownI_cell ow
 by_cases q1 : (i : Int) < (x.length : Int)
 ·have q2 : i < x.length := by omega
  have q3 : i < y.length := by omega
  have w1 := zwrs i (by omega)
  have a := getD_abs (by omega) hx i
  have b := getD_abs (by omega) hy i
  have w3 := wrapS (x := x.getD i default + y.getD i default) (by omega)
  repeat (first | rw [ko] | rw [kr] | simp -dsimp -implicitDefEqProofs only [go_sem, sQ1, hks, ei, ev, q1, q2, q3, w3])
  refine wz_intro (clamp1_ok (by omega) (by omega)) ?_
  rintro _ _ ⟨rfl, rfl⟩
  repeat (first | rw [ko] | rw [kr] | simp -dsimp -implicitDefEqProofs only [go_sem, sQ1, sQ3])
  refine app1 (P := Tryz.prog) (D := fun _ => none) Go.Ai.ty_el25 Go.Ai.ty_zr3 Go.Ai.ty_cl25 (by omega) ow hle (by omega) nn (by rw [List.length_take]; omega) ?_
  intro v4 g4 ow4 le4 nn4 on4
  repeat (first | rw [ko] | rw [kr] | simp -dsimp -implicitDefEqProofs only [go_sem, sQ1, w1])
  exact nx_keep (m - 1) (by omega) zsm ⟨i + 1, v4, le4, nn4, zsm, zsm, by omega, (mapR_snoc q2).symm ▸ ow4⟩
 ·repeat (first | rw [ko] | rw [kr] | simp -dsimp -implicitDefEqProofs only [go_sem, sQ1, hks, ei, ev, q1, c0])
  have hi : i = (addI x y).length := by rw [addI_len]; omega
  rw [hi, List.take_length] at ow
  exact ⟨hle, v, rfl, ow⟩
def greatI (n : Int) (l : List Int) : Int := l.foldl (fun a x => max (max a x) (-x)) n
theorem great_succ {l : List Int} {i : Nat} {n : Int} (h : i < l.length) : greatI n (l.take (i + 1)) = max (max (greatI n (l.take i)) (l.getD i default)) (-(l.getD i default)) := by
 unfold greatI
 rw [List.take_succ_eq_append_getElem h, List.foldl_append, List.getD_eq_getElem?_getD, List.getElem?_eq_getElem h]
 rfl
theorem greatA_ok {f : Adr} {n : Int} {l : List Int} {g : H2} (hl : absB 10000000 l) (hn0 : l.length ≤ 1048576) : WC2 Tryz.prog W0 137 [.raw (.int .i64 n), .sl f 1 (ints l)] g (fun v g' => v = .raw (.int .i64 (greatI n l)) ∧ g' = g) := by
 refine begins [[0, 1], [0, 1], [0, 7, 8, 9], [0, 7, 8, 9], [0, 6, 7, 8, 9], [0, 7, 8, 9], [0]] Tryz.func137 rfl (rs := [.tmp 4]) rfl rfl ?_
 intro wf
 repeat (first | rw [ko] | rw [kr] | simp -dsimp -implicitDefEqProofs only [go_sem])
 refine lz_keep [7, 8] (fun m e h' => ∃ (i : Nat), h' = g ∧ look e 9 .mk = .raw (.int .i64 (i : Nat)) ∧ look e 0 .mk = .raw (.int .i64 (greatI n (l.take i))) ∧ m + i = l.length) l.length ?_ ?_
 ·exact ⟨0, rfl, zsm, by simp -dsimp -implicitDefEqProofs only [go_sem, sQ1] <;> rfl, by omega⟩
 rintro m e h' hks ⟨i, rfl, ei, es, hm⟩
 simp -dsimp -implicitDefEqProofs only [go_sem] at hks
 by_cases q1 : (i : Int) < (l.length : Int)
 ·have q2 : i < l.length := by omega
  have w1 := zwrs i (by omega)
  have a := getD_abs (by omega) hl i
  have w2 : IntKind.i64.wrap (0 - l.getD i default) = -(l.getD i default) := by rw [wrapS (by omega)]; omega
  repeat (first | rw [ko] | rw [kr] | simp -dsimp -implicitDefEqProofs only [go_sem, sQ1, hks, ei, es, q1, q2, w1, w2, mxI_eq])
  exact nx_keep (m - 1) (by omega) zsm ⟨i + 1, rfl, zsm, by rw [great_succ q2]; simp -dsimp -implicitDefEqProofs only [go_sem, sQ1], by omega⟩
 ·repeat (first | rw [ko] | rw [kr] | simp -dsimp -implicitDefEqProofs only [go_sem, sQ1, hks, ei, es, q1])
  have : i = l.length := by omega
  subst this
  exact ⟨by rw [List.take_length], rfl⟩
theorem ofHeadA_ok {f : Adr} {ks : List (List LPart)} {h : Nat} {g : H2} (hk : ∀ i, i < ks.length → h < (ks.getD i default).length ∧ partB ((ks.getD i default).getD h default) = true) (hn0 : ks.length ≤ 1000) : PW Tryz.prog W0 226 [.sl f 1 (rPartSS ks), .raw (.int .i64 h)] g (fun y => ∃ f, y = .sl f 1 (rIntSS (ofHeadI ks h))) := by
 refine (PW.of (q := fun _ => True) (Q := fun y => ∃ f, y = .sl f 1 (rIntSS (ofHeadI ks h))) ?_).mono fun y h => h.1
 refine begins [[0, 1], [0, 1], [0, 1, 5], [1, 5, 11, 12, 13], [1, 5, 11, 12, 13], [1, 5, 7, 11, 12, 13], [1, 5, 8, 11, 12, 13], [1, 5, 11, 12, 13], [5]] Tryz.func226 rfl (rs := [.tmp 4]) rfl rfl ?_
 intro wf
 repeat (first | rw [ko] | rw [kr] | simp -dsimp -implicitDefEqProofs only [go_sem, sQ1, sQ3])
 refine lz_keep [1, 11, 12] (fun m e h' => ∃ (i : Nat) (v : X) (cs : List X), g.le h' ∧ hn g .mk ≤ hn h' .mk ∧ look e 13 .mk = .raw (.int .i64 (i : Nat)) ∧ look e 5 .mk = v ∧ m + i = ks.length ∧ Own (hn g .mk) h' v 1 ((ofHeadI ks h).take i).length cs ∧ ERow eIntS 1 cs ((ofHeadI ks h).take i)) ks.length ?_ ?_
 ·exact ⟨0, _, [], le_push (H2.le.refl _), by simp only [hn_push]; omega, zsm, by simp -dsimp -implicitDefEqProofs only [go_sem, sQ1] <;> rfl, by omega, Own.new (Nat.le_refl _) rfl, .nil⟩
 rintro m e h' hks ⟨i, v, cs, hle, nn, ei, ev, hm, ow, hc⟩
 simp -dsimp -implicitDefEqProofs only [go_sem, sQ1] at hks
 have c0 := own_cell ow
 by_cases q1 : (i : Int) < (ks.length : Int)
 ·have q2 : i < ks.length := by omega
  obtain ⟨q3, q4⟩ := hk i q2
  have w1 := zwrs i (by omega)
  repeat (first | rw [ko] | rw [kr] | simp -dsimp -implicitDefEqProofs only [go_sem, sQ1, sQ2, sQ3, hks, ei, ev, q1, q2, q3])
  refine pw_intro (TI.pw (putA_ok (F := fun j => under (under (under (under f i) 0) h) j) q4)) ?_
  rintro _ n1 hn1 ⟨⟨f2, rfl⟩, _⟩
  repeat (first | rw [ko] | rw [kr] | simp -dsimp -implicitDefEqProofs only [go_sem, sQ1, sQ3])
  refine appE (P := Tryz.prog) (a := backI ((ks.getD i default).getD h default)) eleI Go.Ai.ty_el23 Go.Ai.ty_zr25 rfl Go.Ai.ty_cl23 (by omega) (Own.keep ow (le_up (H2.le.refl _) hn1)) hc (by rw [hn_up]; omega) (by rw [List.length_take]; omega) ?_
  intro v4 g4 cs4 ow4 hc4 nn4 on4
  have e4 : (ofHeadI ks h).take (i + 1) = (ofHeadI ks h).take i ++ [backI ((ks.getD i default).getD h default)] := mapL_snoc q2
  rw [← e4] at ow4 hc4
  repeat (first | rw [ko] | rw [kr] | simp -dsimp -implicitDefEqProofs only [go_sem, sQ1, w1])
  exact nx_keep (m - 1) (by omega) zsm ⟨i + 1, v4, cs4, le_below (le_up hle hn1) (Nat.le_refl _) nn4 on4, nn4, zsm, zsm, by omega, ow4, hc4⟩
 ·repeat (first | rw [ko] | rw [kr] | simp -dsimp -implicitDefEqProofs only [go_sem, sQ1, hks, ei, ev, q1])
  have hi : i = (ofHeadI ks h).length := by unfold ofHeadI; rw [List.length_map]; omega
  rw [hi, List.take_length] at ow hc
  obtain ⟨f, hf⟩ := erow_fz eleI (p := fun b => hn g .mk ≤ b) ow hc (fun b hb => hb)
  exact ⟨hle, _, hf, f, rfl⟩
def xRun (F : Nat → Adr) (m : LModel) (v : Value) : List X := xModel F m ++ [.raw v]
theorem xRun_def {F : Nat → Adr} {m : LModel} {v : Value} : xRun F m v = [.raw (.int .i64 m.dim), .raw (.int .i64 m.heads), .raw (.int .i64 m.context), .sl (F 3) 2 (rMergeS m.merges), .sl (F 4) 1 (rIntSS m.embed), .sl (F 5) 32 (rLayerS m.layers), .sl (F 6) 1 (ints m.gainEnd), .raw (.int .i64 m.head.width), .sl (F 8) 1 (rIntSS m.head.rows), .sl (F 9) 1 (rIntSS m.head.scales), .raw (.int .i64 m.head.mul), .raw (.int .i64 m.head.shift), .sl (F 12) 1 (rIntSS m.turns.cos), .sl (F 13) 1 (rIntSS m.turns.sin), .raw v] := rfl
attribute [go_sem] xRun_def
theorem headR_ok {F : Nat → Adr} {m : LModel} {v : Value} {g : H2} (ht : ModT m) : PW Tryz.prog W0 222 [.st (xRun F m v)] g (fun y => y = .raw (.int .i64 (sizeH m : Nat))) := by
 refine PW.scalar ?_
 refine begins [[0], [1]] Tryz.func222 rfl (rs := [.tmp 2]) rfl rfl ?_
 intro wf
 obtain ⟨s1, s2, s3, s4, s5, s6, s7⟩ := size_t ht
 have hz : (m.heads == 0) = false := by rw [beq_eq_false_iff_ne]; have := ht.heads; omega
 have w := wrapS (x := (sizeH m : Int)) (by omega)
 repeat (first | rw [ko] | rw [kr] | simp -dsimp -implicitDefEqProofs only [go_sem, hoo, hz, s3, w])
 exact ⟨le_push (H2.le.refl _), ⟨_, rfl⟩, rfl⟩
end Go.Bi
end
section
set_option maxRecDepth 20000
namespace Go.Bi
open Go.Proofs
open Go.Ai (wrap_i64)
variable {W0 : World} {P : Program}
set_option maxHeartbeats 4000000
def Gr (N : Nat) (g : H2) (v : X) (z n : Nat) (ts : List T) (bs : List Nat) : Prop := ∃ cs, Own N g v z n cs ∧ OTs g bs cs ts ∧ Bl N (hn g .mk) bs ∧ ∀ b, blockOf v = some b → b ∉ bs
theorem Gr.nil {N : Nat} {g : H2} {z : Nat} : Gr N g (.raw (.slice none 0 0)) z 0 [] [] := ⟨[], Own.nil, .nil, .nil, fun b hb => by cases hb⟩
theorem Gr.empty {N : Nat} {g : H2} {z : Nat} (hN : N ≤ hn g .mk) : Gr N (g.push ⟨z, []⟩) (.raw (.slice (some ⟨hn g .mk, 0, none⟩) 0 0)) z 0 [] [] := ⟨[], Own.new hN (by simp), .nil, .nil, fun b hb => by simp⟩
theorem Gr.keep {N : Nat} {g g' : H2} {v : X} {z n : Nat} {ts : List T} {bs : List Nat} (gr : Gr N g v z n ts bs) (l : g.le g') : Gr N g' v z n ts bs := by
 obtain ⟨cs, o, t, b, d⟩ := gr
 exact ⟨cs, o.keep l, t.keep l b, b.wide (Nat.le_refl _) l.n, d⟩
theorem Gr.cell {N : Nat} {g : H2} {v : X} {z n : Nat} {ts : List T} {bs : List Nat} (gr : Gr N g v z n ts bs) : cellsX v = some [v] ∧ okX v = true ∧ isTpX v = false := by
 obtain ⟨cs, o, _⟩ := gr
 obtain ⟨_, h⟩ := o
 rcases h with ⟨rfl, _⟩ | ⟨b, rfl, _⟩ <;> exact ⟨rfl, rfl, rfl⟩
theorem Gr.tree {N : Nat} {g : H2} {v : X} {z n : Nat} {es : List (List T)} {bs : List Nat} (gr : Gr N g v z n es.flatten bs) (hn' : n = es.length) (hz : ∀ e ∈ es, e.length = z) : ∃ bs', OT g bs' v (.l z es) ∧ Bl N (hn g .mk) bs' := by
  subst hn'
  obtain ⟨cs, ⟨hl, ho⟩, t, b, d⟩ := gr
  rcases ho with ⟨rfl, h0⟩ | ⟨q, rfl, h1, h2, h3⟩
  · have : es = [] := List.eq_nil_of_length_eq_zero h0
    subst this
    exact ⟨[], .nil, .nil⟩
  · exact ⟨q :: bs, .row h3 hl rfl hz t, List.nodup_cons.2 ⟨d q rfl, b.1⟩, fun x hx => by
      rcases List.mem_cons.1 hx with rfl | hx
      · exact ⟨h1, h2⟩
      · exact b.2 x hx⟩
theorem lit_flat {b n z : Nat} {cs : List X} : ∀ {l : List X} {ts : List T} {j : Nat}, toTs l = some ts → (∀ q x, l[q]? = some x → cs[j + q]? = some x) → mkL (under (litA b n z cs) 0) j ts = l
 | [], ts, j, h, _ => by simp only [toTs, Option.some.injEq] at h; subst h; rfl
 | x :: l, ts, j, h, hx => by
  simp only [toTs] at h
  cases h1 : toT x with
  | none => rw [h1] at h; cases h
  | some t =>
   cases h2 : toTs l with
   | none => rw [h1, h2] at h; cases h
   | some r =>
    rw [h1, h2] at h
    simp only [Option.some.injEq] at h
    subst h
    have ih := lit_flat (b := b) (n := n) (z := z) (cs := cs) (j := j + 1) h2 fun q y hy => by
     have := hx (q + 1) y hy
     rwa [show j + (q + 1) = j + 1 + q by omega] at this
    have hc : cs[j]? = some x := hx 0 x rfl
    have e1 : ∀ p, litA b n z cs (0 :: j :: p) = pathX p x := fun p => by
     simp only [litA, Nat.zero_mul, Nat.zero_add, List.getD_eq_getElem?_getD, hc, Option.getD_some]
    simp only [mkL, ih]
    congr 1
    cases x with
    | raw v =>
     simp only [toT] at h1
     split at h1 <;> cases h1
     rfl
    | sl f z' es =>
     simp only [toT, Option.some.injEq] at h1
     subst h1
     show X.sl _ _ _ = X.sl _ _ _
     congr 1
     funext p
     exact e1 p
    | pr a f c => simp [toT] at h1
    | st xs => simp [toT] at h1
    | tp xs => simp [toT] at h1
theorem lit_intro {g : H2} {K : KT} {z : Nat} {cs : List X} (hz : cs.length = z)
  (hk : ∀ w g', srcX g' z w = some (1, cs) → g.le g' → kz K w g' .mk) : litz 1 z cs (toTs cs) g K .mk := by
 cases ht : toTs cs with
 | none =>
  rw [lit_N]
  refine hk _ _ ?_ (le_push (H2.le.refl _))
  exact src_own (N := 0) (Own.new (Nat.zero_le _) (by omega))
 | some ts =>
  rw [lit_S]
  refine hk _ _ ?_ (le_up (H2.le.refl _) (Nat.le_succ _))
  have hl : ts.length = z := by rw [← hz]; exact (toTs_get ht).1
  simp only [srcX, if_true]
  have e : chunk z (0 + 1) ts = [ts] := by simp only [chunk, List.take_of_length_le (Nat.le_of_eq hl)]
  rw [e]
  have := lit_flat (b := hn g .mk) (n := 0 + 1) (z := z) (cs := cs) (l := cs) (j := 0) ht fun q x hq => by rw [Nat.zero_add]; exact hq
  simp only [flatX, this, List.append_nil, List.length_cons, List.length_nil]
theorem append_gr {D : Nat → Option (List Nat)} {g : H2} {K : KT} {t u U z y N n : Nat} {zs : List Value} {v w : X} {ys : List X} {ts us : List T} {bs b2 : List Nat} (he : Go.Ai.elt? P t = some (U, z + 1, y)) (hz : Go.Ai.zr? P U = some zs) (hl : zs.length = z + 1) (hu : Go.Ai.cls? P u = some .sl)
    (gr : Gr N g v (z + 1) n ts bs) (hs : srcX g (z + 1) w = some (1, ys)) (o : OTs g b2 ys us) (hyl : ys.length = z + 1) (hN : N ≤ hn g .mk) (hlo : ∀ b ∈ b2, N ≤ b ∧ b < hn g .mk) (hnd : b2.Nodup) (hdj : ∀ b ∈ bs, b ∉ b2) (hdv : ∀ b, blockOf v = some b → b ∉ b2) (hn0 : (n + 1) * (y + 1) ≤ Go.Ai.most)
    (hk : ∀ v' g', Gr N g' v' (z + 1) (n + 1) (ts ++ us) (bs ++ b2) → hn g .mk ≤ hn g' .mk → (∀ g0 : H2, hn g0 .mk ≤ N → g0.le g → g0.le g') → (∀ b, b < hn g .mk → blockOf v ≠ some b → hg g' b .mk = hg g b .mk) → kz K v' g' .mk) :
    az (biz P g .append [t, u] [v, w] .mk) K .mk := by
  obtain ⟨cs, ⟨hlen0, hcase⟩, oc, bl, dv⟩ := gr
  have hok := OTs.okx o
  have hbl : Bl N (hn g .mk) (bs ++ b2) := ⟨List.nodup_append.2 ⟨bl.1, hnd, fun x hx y hy e => hdj x hx (e ▸ hy)⟩, fun x hx => by
    rcases List.mem_append.1 hx with hx | hx
    · exact bl.2 x hx
    · exact hlo x hx⟩
  have key : ∀ a, v = .raw (.slice a n n) → biz P g .append [t, u] [v, w] .mk = (match a with
        | none => some (.raw (.slice (some ⟨g.n, 0, none⟩) 1 1), g.push ⟨z + 1, ys⟩)
        | some a => match g.get a.block with
          | some k => if k.z = z + 1 ∧ a.off = 0 then (rdL k.cs 0 (n * (z + 1))).map fun olds => (.raw (.slice (some ⟨g.n, 0, none⟩) (n + 1) (n + 1)), (g.kill a.block).push ⟨z + 1, olds ++ ys⟩) else none
          | none => none) := by
    intro a ha
    subst ha
    simp only [biz, builtinX, hu, appendX, he, hs, hz]
    rw [if_pos ⟨hl, hn0, hok⟩, if_neg (by omega)]
    rfl
  have hmv : ∀ b : Nat, (b == b) = true := by simp
  rcases hcase with ⟨rfl, rfl⟩ | ⟨b, rfl, hNb, hbn, hb⟩
  · have hcs : cs = [] := List.eq_nil_of_length_eq_zero (by omega)
    subst hcs
    rw [key none rfl]
    have hle : ∀ b, b < hn g .mk → hg (g.push ⟨z + 1, ys⟩) b .mk = hg g b .mk := fun b' hb' => by
      rw [hg_push, show (b' == hn g .mk) = false by simp; omega]; rfl
    refine hk _ _ ⟨ys, ⟨by omega, .inr ⟨g.n, rfl, hN, by rw [hn_push]; exact Nat.lt_succ_self _, ?_⟩⟩, ?_, hbl.wide (Nat.le_refl _) (by rw [hn_push]; omega), ?_⟩ (by rw [hn_push]; omega) (fun g0 _ l0 => le_push l0) (fun b' h1 _ => hle b' h1)
    · rw [hg_push]; show Go.Bi.hk (g.n == g.n) _ _ _ _ = _; rw [hmv]; rfl
    · have := (oc.append o)
      rw [List.nil_append] at this
      exact this.frame fun x hx => hle x (hbl.2 x hx).2
    · intro b' e hx
      simp only [blockOf, Option.some.injEq] at e
      have := (hbl.2 b' hx).2
      unfold hn at this; omega
  · have hb' : g.get b = some ⟨z + 1, cs⟩ := hb
    rw [key _ rfl]
    simp only [hb']
    rw [if_pos ⟨trivial, trivial⟩, rd_all hlen0]
    have hle : ∀ b', b' < hn g .mk → b' ≠ b → hg ((g.kill b).push ⟨z + 1, cs ++ ys⟩) b' .mk = hg g b' .mk := fun b' h1 h2 => by
      rw [hg_push, hn_kill, show (b' == hn g .mk) = false by simp; omega, hk_f, hg_kill, show (b' == b) = false by simp [h2]]; rfl
    refine hk _ _ ⟨cs ++ ys, ⟨by simp [hlen0, hyl, Nat.add_mul], .inr ⟨g.n, rfl, hN, by rw [hn_push, hn_kill]; exact Nat.lt_succ_self _, ?_⟩⟩, ?_, hbl.wide (Nat.le_refl _) (by rw [hn_push, hn_kill]; omega), ?_⟩ (by rw [hn_push, hn_kill]; omega) (fun g0 h0 l0 => le_push (le_kill l0 (by omega))) (fun b' h1 h2 => hle b' h1 (fun e => h2 (by rw [e]; rfl)))
    · rw [hg_push, hn_kill]; show Go.Bi.hk (g.n == g.n) _ _ _ _ = _; rw [hmv]; rfl
    · exact (oc.append o).frame fun x hx => hle x (hbl.2 x hx).2 fun e => by
        rcases List.mem_append.1 hx with hx | hx
        · exact dv b rfl (e ▸ hx)
        · exact hdv b rfl (e ▸ hx)
    · intro b' e hx
      simp only [blockOf, Option.some.injEq] at e
      have := (hbl.2 b' hx).2
      unfold hn at this; omega
theorem Gr.bl {N : Nat} {g : H2} {v : X} {z n : Nat} {ts : List T} {bs : List Nat} (gr : Gr N g v z n ts bs) : ∀ b ∈ bs, N ≤ b ∧ b < hn g .mk := by
 obtain ⟨cs, o, t, b, d⟩ := gr
 exact b.2
theorem Gr.lt {N : Nat} {g : H2} {v : X} {z n : Nat} {ts : List T} {bs : List Nat} (gr : Gr N g v z n ts bs) : ∀ b, blockOf v = some b → N ≤ b ∧ b < hn g .mk := by
 obtain ⟨cs, ⟨_, h⟩, _⟩ := gr
 rcases h with ⟨rfl, _⟩ | ⟨q, rfl, h1, h2, _⟩
 ·intro b e; cases e
 ·intro b e; simp only [blockOf, Option.some.injEq] at e; subst e; exact ⟨h1, h2⟩
end Go.Bi
end
section
set_option maxRecDepth 20000
namespace Go.Bi
open Go.Proofs
open Go.Ai (wrap_i64 Heap)
variable {W0 : World} {P : Program}
set_option maxHeartbeats 4000000
abbrev MI (P : Program) (W0 : World) (f : FuncId) (xs : List X) (g : H2) (p : Option Nat) (r s : Int) (zs : List Int) : Prop := WC2 P W0 f xs g fun y g' => OnM p g g' ∧ Mt p g' r s ∧ ∃ v, y = .tp [v, .raw (.bool true)] ∧ OwnI (hn g .mk) g' v zs
theorem MI.pm {f : FuncId} {xs : List X} {g : H2} {p : Option Nat} {r0 s0 r s : Int} {zs : List Int} (m : Mt p g r0 s0) (c : MI P W0 f xs g p r s zs) : PM P W0 f xs g p r s fun y => (∃ f, y = .tp [.sl f 1 (ints zs), .raw (.bool true)]) ∧ AllB (fun b => hn g .mk ≤ b) y := by
 refine (PM.of (q := fun b => hn g .mk ≤ b) (Q := fun y => ∃ f, y = .tp [.sl f 1 (ints zs), .raw (.bool true)]) m (c.mono ?_)).mono fun y ⟨h1, h2⟩ => ⟨h1, h2.imp fun b hb => hb.elim id id⟩
 rintro x g' ⟨le, mt, v, rfl, ow⟩
 obtain ⟨f, hf⟩ := ow.fz (p := fun b => hn g .mk ≤ b) (q := fun b => hn g .mk ≤ b) fun _ h => h
 exact ⟨le, mt, _, fz2 hf .raw, f, rfl⟩
theorem OnM.setb {g g' : H2} {b : Nat} {k : OB} (o : OnM (some b) g g') : OnM (some b) g (g'.set b k) := ⟨o.1, fun d h1 h2 => by rw [hg_set, show (d == b) = false by simp at h2 ⊢; omega]; exact o.2 d h1 h2⟩
theorem Mt.setb {g : H2} {b : Nat} {r s : Int} (h : b < hn g .mk) : Mt (some b) (g.set b (metO r s)) r s := fun b' e => by
 cases e
 exact ⟨h, by rw [hg_set, show (b == b) = true by simp]; rfl⟩
theorem neq_ptr {t : Nat} {a : Option Addr} (h : Go.Ai.cls? P t = some .ptr) : rawO (Go.Ai.binV P .neq t (.pointer a) (.pointer none)) = some (.raw (.bool (!a.isNone))) := by
 simp only [rawO, Go.Ai.binV, Go.Ai.eqV, h]
 cases a <;> rfl
attribute [go_sem] neq_ptr
theorem wide_to {a : LMatrix} {x : List Int} (ha : matB a = true) (hx : absB 127 x) : absB 10000000 (wideI a x) := absB_mono (wide_abs ha hx) (by omega)
theorem applyA_ok {F F' : Nat → Adr} {m : LModel} {p : Option Nat} {r s : Int} {a : LMatrix} {f : Adr} {x : List Int} {g : H2} (mt : Mt p g r s) (ha : matB a = true) (h0 : 0 < a.rows.length) (hl : (x.length : Int) = a.width) (hx : absB 127 x) : MI Tryz.prog W0 183 [.st (xRun F m (metV p)), .st (xMatrix F' a), .sl f 1 (ints x)] g p (greatI r (wideI a x)) s (applyI a x) := by
 have hrl := (mat_t ha).2.1
 cases p with
 | none =>
  refine begins [[0, 1, 2], [2, 3, 4], [3, 4, 8, 9], [], [3, 4, 8], [3, 4, 8], [4, 8]] Tryz.func183 rfl (rs := [.tmp 6, .tmp 7]) rfl rfl ?_
  intro wf
  have hne : (hn g .mk == hn g .mk + 1) = false := by simp
  repeat (first | rw [ko] | rw [kr] | simp -dsimp -implicitDefEqProofs only [go_sem, sQ1, hoo, metV])
  refine pw_intro (TI.pw (wideA_ok (F := F') ha h0 hl hx)) ?_
  rintro _ n1 hn1 ⟨⟨f2, rfl⟩, _⟩
  repeat (first | rw [ko] | rw [kr] | simp -dsimp -implicitDefEqProofs only [go_sem, sQ1, hoo, hne])
  refine wz_intro (narrowA_ok (F := F') ha (by rw [wideI_len]; omega) (wide_abs ha hx)) ?_
  rintro v g2 ⟨l2, ow⟩
  have c0 := ownI_cell ow
  simp only [hn_push, hn_up] at hn1 ow
  repeat (first | rw [ko] | rw [kr] | simp -dsimp -implicitDefEqProofs only [go_sem, c0])
  exact ⟨OnM.of (H2.le.trans (le_up (le_push (le_push (H2.le.refl _))) (by simp only [hn_push]; omega)) l2), Mt.none, v, rfl, ow.wide (by omega)⟩
 | some b =>
  obtain ⟨hb, row⟩ := mt b rfl
  refine begins [[0, 1, 2], [2, 3, 4], [3, 4, 8, 9], [], [3, 4, 8], [3, 4, 8], [4, 8]] Tryz.func183 rfl (rs := [.tmp 6, .tmp 7]) rfl rfl ?_
  intro wf
  have hne : (hn g .mk == hn g .mk + 1) = false := by simp
  have hb1 : (b == hn g .mk) = false := zne
  have hb2 : (b == hn g .mk + 1) = false := zne
  have hb3 : (hn g .mk == b) = false := zne
  have hb4 : (hn g .mk + 1 == b) = false := zne
  unfold metO at row
  repeat (first | rw [ko] | rw [kr] | simp -dsimp -implicitDefEqProofs only [go_sem, sQ1, hoo, metV])
  refine pw_intro (TI.pw (wideA_ok (F := F') ha h0 hl hx)) ?_
  rintro _ n1 hn1 ⟨⟨f2, rfl⟩, _⟩
  repeat (first | rw [ko] | rw [kr] | simp -dsimp -implicitDefEqProofs only [go_sem, sQ1, hoo, hne])
  refine dq_intro [(0, []), (1, []), (2, []), (3, []), (4, []), (5, []), (6, []), (7, []), (8, [1]), (9, []), (10, []), (11, [])] (by kernel_rfl) ?_
  repeat (first | rw [ko] | rw [kr] | simp -dsimp -implicitDefEqProofs only [go_sem, sQ1, hoo, hne, row, hb1, hb2])
  refine wz_intro (greatA_ok (wide_to ha hx) (by rw [wideI_len]; omega)) ?_
  rintro _ _ ⟨rfl, rfl⟩
  repeat (first | rw [ko] | rw [kr] | simp -dsimp -implicitDefEqProofs only [go_sem, sQ1, hoo, hne, row, hb1, hb2, hb4])
  refine wz_intro (narrowA_ok (F := F') ha (by rw [wideI_len]; omega) (wide_abs ha hx)) ?_
  rintro v g2 ⟨l2, ow⟩
  have c0 := ownI_cell ow
  simp only [hn_push, hn_set, hn_up] at hn1 ow
  repeat (first | rw [ko] | rw [kr] | simp -dsimp -implicitDefEqProofs only [go_sem, c0])
  refine ⟨?_, ?_, v, rfl, ow.wide (by omega)⟩
  ·exact OnM.le (OnM.setb ((OnM.push (OnM.push OnM.refl)).up (by simp only [hn_push]; omega))) l2
  ·exact Mt.le (Mt.setb (r := greatI r (wideI a x)) (s := s) (by simp only [hn_up]; omega)) l2
theorem turnedA_ok {F F' : Nat → Adr} {m : LModel} {p : Option Nat} {r s : Int} {a : LMatrix} {f : Adr} {x : List Int} {k : Nat} {g : H2} (mt : Mt p g r s) (ht : ModT m) (hw : withB a m.dim m.dim = true) (hx : VecM m 127 x) (hk : (k : Int) < m.context) : MI Tryz.prog W0 182 [.st (xRun F m (metV p)), .st (xMatrix F' a), .raw (.int .i64 k), .sl f 1 (ints x)] g p (greatI r (wideI a x)) s (turnM m k (applyI a x)) := by
 obtain ⟨ha, hwd, hrl⟩ := with_t hw
 have hl := hx.len ht
 have ht2 := turns_t ht.turns
 obtain ⟨s1, s2, s3, s4, s5, s6, s7⟩ := size_t ht
 have hy : VecM m 127 (applyI a x) := VecM.app hw ht
 have hyl := hy.len ht
 have hpl := ht2.2.2.2.2 k hk
 rw [s4] at hpl
 refine begins [[0, 1, 2, 3], [2, 3, 4, 5], [2, 4, 10, 11], [], [2, 4, 10]] Tryz.func182 rfl (rs := [.tmp 8, .tmp 9]) rfl rfl ?_
 intro wf
 have hne : (hn g .mk == hn g .mk + 1) = false := by simp
 have p1 := mt.ne (c := hn g .mk) (Nat.le_refl _)
 have p2 := mt.ne (c := hn g .mk + 1) (by omega)
 repeat (first | rw [ko] | rw [kr] | simp -dsimp -implicitDefEqProofs only [go_sem, sQ1, hoo, hne])
 refine pm_intro (MI.pm (by exact mt.push.push) (applyA_ok (F := F) (F' := F') (mt.push.push) ha (by have := ht.dim; omega) (by omega) hx.2)) ?_
 rintro _ n1 hn1 ⟨⟨f2, rfl⟩, _⟩
 simp only [hn_push] at hn1
 repeat (first | rw [ko] | rw [kr] | simp -dsimp -implicitDefEqProofs only [go_sem, sQ1, hoo])
 refine dq_intro [(0, []), (1, []), (2, []), (3, []), (4, []), (6, []), (5, [2]), (7, []), (8, []), (9, []), (10, []), (11, [])] (by kernel_rfl) ?_
 repeat (first | rw [ko] | rw [kr] | simp -dsimp -implicitDefEqProofs only [go_sem, sQ1, hoo, hne, hg_gM p1])
 refine pw_intro (headR_ok (F := F) ht) ?_
 rintro _ n2 hn2 rfl
 try (rw [kq]; refine ⟨by simp -dsimp -implicitDefEqProofs only [go_sem, sQ1, hoo, hne, hg_gM p1], ?_⟩)
 repeat (first | rw [ko] | rw [kr] | simp -dsimp -implicitDefEqProofs only [go_sem, hoo])
 refine wz_intro (turnAllA_ok (F := fun j => F (j + 12)) (t := m.turns) (hd := sizeH m) s1 (by have := hy.1; rw [this, ← s2, Nat.mul_mod_left]) (by omega) hy.2 (by omega) (by omega) (by omega) (by omega) (by omega) hpl.1.2 hpl.2.2) ?_
 rintro _ g3 ⟨l3, v, rfl, ow⟩
 have c0 := ownI_cell ow
 simp only [hn_up] at hn2
 repeat (first | rw [ko] | rw [kr] | simp -dsimp -implicitDefEqProofs only [go_sem, sQ1, c0])
 refine ⟨?_, ?_, v, rfl, ow.wide (by simp only [hn_up]; omega)⟩
 ·exact OnM.le (OnM.up (OnM.up (OnM.gM (OnM.push (OnM.push OnM.refl))) (by simp only [hn_gM, hn_push]; omega)) (by simp only [hn_up]; omega)) l3
 ·exact Mt.le (Mt.up (Mt.up (Mt.set (mt.push.push)) (by simp only [hn_gM, hn_push]; omega)) (by simp only [hn_up]; omega)) l3
end Go.Bi
end
section
set_option maxRecDepth 20000
namespace Go.Bi
open Go.Proofs
open Go.Ai (wrap_i64 Heap)
variable {W0 : World} {P : Program}
set_option maxHeartbeats 4000000
theorem mi_call {K : KT} {f : FuncId} {xs : List X} {g : H2} {p : Option Nat} {r0 s0 r s : Int} {zs : List Int} (m : Mt p g r0 s0) (c : Mt p g r0 s0 → MI P W0 f xs g p r s zs)
    (hk : ∀ y n, hn g .mk ≤ n → Mt p ((gM g p r s).up n) r s → OnM p g ((gM g p r s).up n) → (∃ f, y = .tp [.sl f 1 (ints zs), .raw (.bool true)]) ∧ AllB (fun b => hn g .mk ≤ b) y → kz K y ((gM g p r s).up n) .mk) : wz P W0 f xs g K .mk :=
  pm_intro (MI.pm m (c m)) fun y n h q => hk y n h (Mt.up (Mt.set m) (by rw [hn_gM]; exact h)) (OnM.up (OnM.gM OnM.refl) (by rw [hn_gM]; exact h)) q
def cutsL (m : LModel) (x : List Int) : List LPart := (List.range m.heads.toNat).map fun h => cutI (headI x (sizeH m) h)
theorem cutsL_len {m : LModel} {x : List Int} : (cutsL m x).length = m.heads.toNat := by simp [cutsL]
theorem cutsL_at {m : LModel} {x : List Int} {i : Nat} (h : i < m.heads.toNat) : (cutsL m x).getD i default = cutI (headI x (sizeH m) i) := by
 unfold cutsL
 rw [List.getD_eq_getElem?_getD, List.getElem?_map, List.getElem?_range h]
 rfl
theorem headsL_at {x : List Int} {s n i : Nat} (h : i < n) : (headsL x s n).getD i default = headI x s i := by
 unfold headsL
 rw [List.getD_eq_getElem?_getD, List.getElem?_map, List.getElem?_range h]
 rfl
theorem heads_nat {m : LModel} (ht : ModT m) : m.heads = ((m.heads.toNat : Nat) : Int) := by have := ht.heads; omega
theorem cutHeadsA_ok {F : Nat → Adr} {m : LModel} {v0 : Value} {f : Adr} {x : List Int} {g : H2} (ht : ModT m) (hx : VecM m 127 x) : WC2 Tryz.prog W0 184 [.st (xRun F m v0), .sl f 1 (ints x)] g (fun y g' => g.le g' ∧ ∃ w bs, y = .tp [w, .raw (.bool true)] ∧ OT g' bs w (.l 2 (rPartS (cutsL m x))) ∧ Bl (hn g .mk) (hn g' .mk) bs) := by
 obtain ⟨s1, s2, s3, s4, s5, s6, s7⟩ := size_t ht
 have hl := hx.len ht
 refine begins [[0, 1], [1, 2], [6, 7], [6, 7, 8], [7, 8, 22, 23, 24], [7, 8, 22, 23, 24], [7, 8, 10, 22, 23, 24], [7, 8, 11, 12, 22, 23, 24], [7, 8, 11, 22, 23, 24], [7, 8, 22, 23, 24], [7, 8]] Tryz.func184 rfl (rs := [.tmp 4, .tmp 5]) rfl rfl ?_
 intro wf
 have hnat := heads_nat ht
 have hl2 : (cutsL m x).length = m.heads.toNat := cutsL_len
 repeat (first | rw [ko] | rw [kr] | simp -dsimp -implicitDefEqProofs only [go_sem, sQ1, hoo])
 rw [hnat]
 refine pw_intro (headsA_ok (n := m.heads.toNat) (size := sizeH m) (by omega) (by omega) (by rw [hx.1, s2]) (by omega)) ?_
 rintro _ n1 hn1 ⟨f2, rfl⟩
 simp only [hn_push] at hn1
 repeat (first | rw [ko] | rw [kr] | simp -dsimp -implicitDefEqProofs only [go_sem, sQ1, sQ2, sQ3, hoo])
 refine lz_keep [22, 23] (fun mm e h' => ∃ (i : Nat) (v : X) (bs : List Nat), look e 24 .mk = .raw (.int .i64 (i : Nat)) ∧ look e 8 .mk = v ∧ look e 7 .mk = .raw (.bool true) ∧ mm + i = m.heads.toNat ∧ g.le h' ∧ Gr (hn g .mk) h' v 2 i ((((cutsL m x).take i).map ePart).flatten) bs) m.heads.toNat ?_ ?_
 ·exact ⟨0, _, [], zsm, by simp -dsimp -implicitDefEqProofs only [go_sem, sQ1] <;> rfl, zsm, by omega, le_push (le_up (le_push (H2.le.refl _)) (by rw [hn_push]; exact hn1)), Gr.empty (by simp only [hn_up]; omega)⟩
 rintro mm e h' hks ⟨i, v, bs, ei, ev, et, hm, hle, gr⟩
 simp -dsimp -implicitDefEqProofs only [go_sem] at hks
 have hv := Gr.cell gr
 have hlen : (headsL x (sizeH m) m.heads.toNat).length = m.heads.toNat := headsL_len
 by_cases q1 : (i : Int) < (m.heads.toNat : Int)
 ·have q2 : i < m.heads.toNat := by omega
  have w1 := zwrs i (by omega)
  obtain ⟨hh1, hh2⟩ := head_t hx ht q2
  have hat := headsL_at (x := x) (s := sizeH m) q2
  repeat (first | rw [ko] | rw [kr] | simp -dsimp -implicitDefEqProofs only [go_sem, sQ1, hks, ei, ev, et, q1, q2, hlen, hat])
  refine wz_intro (cutDownA_ok hh2 (by omega) (by omega)) ?_
  rintro _ g1 ⟨l1, w, rfl, ow⟩
  obtain ⟨b1, oy, bl1⟩ := OwnI.tree ow
  have hy := OT.cell oy
  repeat (first | rw [ko] | rw [kr] | simp -dsimp -implicitDefEqProofs only [go_sem, sQ1, sQ2, sQ3, sQ4, hy, hoo])
  refine lit_intro (cs := [.raw (.int .i64 (cutS (headI x (sizeH m) i) : Nat)), w]) rfl ?_
  intro w2 g2 hs2 l2
  repeat (first | rw [ko] | rw [kr] | simp -dsimp -implicitDefEqProofs only [go_sem])
  have L2 : g1.le g2 := H2.le.trans zale l2
  have o1 : OTs g1 b1 [.raw (.int .i64 (cutS (headI x (sizeH m) i) : Nat)), w] (ePart (cutI (headI x (sizeH m) i))) := outPart (c := cutI (headI x (sizeH m) i)) oy
  have gr1 := gr.keep (l1.trans L2)
  have hvl := gr.lt
  have ll1 := l1.1
  have ll2 := L2.1
  have ll0 := hle.1
  refine append_gr (P := Tryz.prog) (D := fun _ => none) (N := hn g .mk) (us := ePart (cutI (headI x (sizeH m) i))) Go.Ai.ty_el156 Go.Ai.ty_zr196 rfl Go.Ai.ty_cl156 gr1 hs2 (OTs.frame o1 fun q hq => by have := bl1.2 q hq; exact L2.2 q (by omega)) rfl (by omega) (fun b hb => by have := bl1.2 b hb; omega) bl1.1 (fun b hb hb' => by have := gr.bl b hb; have := bl1.2 b hb'; omega) (fun b e hb' => by have := hvl b e; have := bl1.2 b hb'; omega) (by have : Go.Ai.most = 1099511627776 := rfl; omega) ?_
  intro v' g3 gr3 nn3 le3 fr3
  have hv' := Gr.cell gr3
  repeat (first | rw [ko] | rw [kr] | simp -dsimp -implicitDefEqProofs only [go_sem, sQ1, w1])
  refine nx_keep (mm - 1) (by omega) (by simp -dsimp -implicitDefEqProofs only [go_sem, sQ1, hlen]) ⟨i + 1, v', bs ++ b1, zsm, zsm, zsm, by omega, le3 g (Nat.le_refl _) ((hle.trans l1).trans L2), ?_⟩
  rw [flat_next (E := ePart) (l := cutsL m x) (by omega), cutsL_at q2]
  exact gr3
 ·repeat (first | rw [ko] | rw [kr] | simp -dsimp -implicitDefEqProofs only [go_sem, sQ1, hks, ei, ev, et, q1, hv, hlen])
  have hi : i = (cutsL m x).length := by omega
  rw [hi, List.take_length] at gr
  obtain ⟨bs', o', bl'⟩ := Gr.tree (es := rPartS (cutsL m x)) gr (by rw [rPartS_len]) (fun e he => by obtain ⟨x, _, rfl⟩ := List.mem_map.1 he; rfl)
  exact ⟨hle, v, bs', rfl, o', bl'⟩
def KvA (N : Nat) (g : H2) (y : X) (ks vs : List LPart) : Prop := ∃ w1 w2 b1 b2, y = .tp [w1, w2, .raw (.bool true)] ∧ OT g b1 w1 (.l 2 (rPartS ks)) ∧ OT g b2 w2 (.l 2 (rPartS vs)) ∧ Bl N (hn g .mk) (b1 ++ b2)
theorem keyValueA_ok {F : Nat → Adr} {m : LModel} {p : Option Nat} {r s : Int} {f : Adr} {x : List Int} {i k : Nat} {g : H2} (mt : Mt p g r s) (ht : ModT m) (hi : i < m.layers.length) (hk : (k : Int) < m.context) (hx : VecM m 1000 x) :
  WC2 Tryz.prog W0 133 [.st (xRun F m (metV p)), .raw (.int .i64 i), .raw (.int .i64 k), .sl f 1 (ints x)] g (fun y g' => OnM p g g' ∧ Mt p g' (greatI (greatI r (wideI (m.layers.getD i default).k (normI x (m.layers.getD i default).gain1))) (wideI (m.layers.getD i default).v (normI x (m.layers.getD i default).gain1))) s ∧ KvA (hn g .mk) g' y (keysI m (m.layers.getD i default) k x) (valsI m (m.layers.getD i default) x)) := by
 have hlay := ht.lay i hi
 obtain ⟨y1, y2, y3, y4, y5, y6, y7, y8, y9⟩ := lay_t hlay
 have hg1 := gain_t y1
 have hl := hx.len ht
 have hh : VecM m 127 (normI x (m.layers.getD i default).gain1) := hx.norm
 have hhl := hh.len ht
 have hv := with_t y6
 have hd := ht.dim
 refine begins [[0, 1, 2, 3], [1, 2, 3, 4], [2, 3, 4, 11], [2, 4, 11, 12, 13], [], [2, 4, 11, 12], [4, 11, 12, 14, 15], [4, 14, 15, 16, 17], [], [4, 14, 16], [4, 15, 16, 18], [15, 17, 18, 19], [], [18, 19]] Tryz.func133 rfl (rs := [.tmp 8, .tmp 9, .tmp 10]) rfl rfl ?_
 intro wf
 have hne : (hn g .mk == hn g .mk + 1) = false := by simp
 have p1 := mt.ne (c := hn g .mk) (Nat.le_refl _)
 have p2 := mt.ne (c := hn g .mk + 1) (by omega)
 repeat (first | rw [ko] | rw [kr] | simp -dsimp -implicitDefEqProofs only [go_sem, sQ1, sQ2, sQ3, hoo, hi])
 refine pw_intro (TI.pw (normA_ok hx.2 (by omega) (by omega) (by omega) hg1.2.1)) ?_
 rintro _ n1 hn1 ⟨⟨f1, rfl⟩, _⟩
 simp only [hn_push, hn_set] at hn1
 repeat (first | rw [ko] | rw [kr] | simp -dsimp -implicitDefEqProofs only [go_sem, sQ1, hoo, hne])
 refine mi_call (by exact Mt.up (Mt.put (mt.push.push) p2) (by simp only [hn_push, hn_set]; omega)) (fun mt1 => turnedA_ok (F := F) (F' := fun j => under (under (F 5) i) (j + 6)) mt1 ht y5 hh hk) ?_
 rintro _ n2 hn2 mt2 on2 ⟨⟨f2, rfl⟩, _⟩
 simp only [hn_up] at hn2
 repeat (first | rw [ko] | rw [kr] | simp -dsimp -implicitDefEqProofs only [go_sem, sQ1, hoo, hne, hg_gM p1, hg_gM p2])
 refine mi_call (by exact mt2) (fun mt2 => applyA_ok (F := F) (F' := fun j => under (under (F 5) i) (j + 11)) mt2 hv.1 (by omega) (by omega) hh.2) ?_
 rintro _ n3 hn3 mt3 on3 ⟨⟨f3, rfl⟩, _⟩
 simp only [hn_up] at hn3
 repeat (first | rw [ko] | rw [kr] | simp -dsimp -implicitDefEqProofs only [go_sem, sQ1, hoo, hne, hg_gM p1])
 refine wz_intro (cutHeadsA_ok (F := F) ht (VecM.turn (p := k) (VecM.app y5 ht))) ?_
 rintro _ g4 ⟨l4, wk, b1, rfl, ok, bl1⟩
 have row4 : hg g4 (hn g .mk) .mk = _ := (l4.2 (hn g .mk) (by simp only [hn_up]; omega)).trans (by simp -dsimp -implicitDefEqProofs only [go_sem, hoo, hne, hg_gM p1] <;> rfl)
 have ck := OT.cell ok
 have ll4 := l4.1
 simp only [hn_up] at ll4 bl1
 repeat (first | rw [ko] | rw [kr] | simp -dsimp -implicitDefEqProofs only [go_sem, sQ1, row4])
 refine wz_intro (cutHeadsA_ok (F := F) ht (VecM.app y6 ht)) ?_
 rintro _ g5 ⟨l5, wv, b2, rfl, ov, bl2⟩
 have cv := OT.cell ov
 repeat (first | rw [ko] | rw [kr] | simp -dsimp -implicitDefEqProofs only [go_sem, sQ1, ck, cv])
 refine ⟨OnM.le (OnM.trans (OnM.trans (OnM.up (OnM.put (OnM.push (OnM.push OnM.refl)) (by omega)) (by simp only [hn_push, hn_set]; omega)) on2) on3) (l4.trans l5), mt3.le (l4.trans l5), wk, wv, b1, b2, rfl, ok.keep l5 bl1, ov, Bl.wide (bl1.append bl2 (by omega) l5.1) (by omega) (Nat.le_refl _)⟩
end Go.Bi
end
section
set_option maxRecDepth 20000
namespace Go.Bi
open Go.Proofs
open Go.Ai (wrap_i64 Heap)
variable {W0 : World} {P : Program}
set_option maxHeartbeats 4000000
theorem appI {g : H2} {K : KT} {t u U y N : Nat} {xs zs : List Int} {x : X} {f : Adr} (he : Go.Ai.elt? P t = some (U, 1, y)) (hz : Go.Ai.zr? P U = some [.int .i64 0]) (hu : Go.Ai.cls? P u = some .sl)
  (hy : y ≤ 1000) (hx : OwnI N g x xs) (hN : N ≤ hn g .mk) (hn0 : xs.length + zs.length ≤ 1048576)
  (hk : ∀ v' g', OwnI N g' v' (xs ++ zs) → N ≤ hn g' .mk → (∀ c, c < N → hg g' c .mk = hg g c .mk) → kz K v' g' .mk) :
  az (biz P g .append [t, u] [x, .sl f 1 (ints zs)] .mk) K .mk := by
 refine append_ints (D := fun _ => none) (N := N) he hz hu hx hN ?_ ?_
 ·have : Go.Ai.most = 1099511627776 := rfl
  have : (xs.length + zs.length) * (y + 1) ≤ 1048576 * 1001 := Nat.mul_le_mul hn0 (by omega)
  omega
 intro v' g' o n l k
 refine hk v' g' o (by omega) fun c hc => k c (by omega) fun e => ?_
 obtain ⟨_, h⟩ := hx
 rcases h with ⟨rfl, _⟩ | ⟨q, rfl, a1, _⟩
 ·cases e
 ·simp only [blockOf, Option.some.injEq] at e; omega
def allP (m : LModel) (q : List Int) (ks vs : List (List LPart)) (n : Nat) : List Int := (List.range n).flatMap fun h => attendI (headI q (sizeH m) h) (ofHeadI ks h) (ofHeadI vs h)
def attS (m : LModel) (q : List Int) (ks : List (List LPart)) (s : Int) : Nat → Int
 | 0 => s
 | n + 1 => greatI (attS m q ks s n) ((ofHeadI ks n).map (scoreI (headI q (sizeH m) n)))
theorem allP_succ {m : LModel} {q : List Int} {ks vs : List (List LPart)} {n : Nat} : allP m q ks vs (n + 1) = allP m q ks vs n ++ attendI (headI q (sizeH m) n) (ofHeadI ks n) (ofHeadI vs n) := by
 unfold allP
 rw [List.range_succ, List.flatMap_append, List.flatMap_cons, List.flatMap_nil, List.append_nil]
theorem allP_len {m : LModel} {q : List Int} {ks vs : List (List LPart)} {b : Int} (ht : ModT m) (hq : VecM m b q) : ∀ {n : Nat}, n ≤ m.heads.toNat → (allP m q ks vs n).length = n * sizeH m := fun {n} hn =>
 flatL_len (s := sizeH m) fun i hi => by rw [attend_len]; exact (head_t hq ht (by omega)).1
theorem rows_of {m : LModel} {l : List (List LPart)} {h : Nat} (ht : ModT m) (hl : PartsM m l) (hh : h < m.heads.toNat) : rowsB (sizeH m) (ofHeadI l h) := fun v hv => ⟨(ofHead_t ht hl hh).2.2 v hv, (ofHead_t ht hl hh).2.1 v hv⟩
theorem partsAt {m : LModel} {l : List (List LPart)} {h : Nat} (ht : ModT m) (hl : PartsM m l) (hh : h < m.heads.toNat) (i : Nat) (hi : i < l.length) : h < (l.getD i default).length ∧ partB ((l.getD i default).getD h default) = true := by
 have := parts_t ht (hl i hi)
 exact ⟨by omega, (this.2 h (by omega)).1⟩
theorem attendR_ok {F : Nat → Adr} {m : LModel} {p : Option Nat} {r s : Int} {f f2 f3 : Adr} {q : List Int} {ks vs : List (List LPart)} {g : H2} (mt : Mt p g r s) (ht : ModT m) (hq : VecM m 127 q) (hks0 : PartsM m ks) (hvs : PartsM m vs) (hlk : vs.length = ks.length) (hk1 : 1 ≤ ks.length) (hk32 : ks.length ≤ 32) :
  MI Tryz.prog W0 185 [.st (xRun F m (metV p)), .sl f 1 (ints q), .sl f2 1 (rPartSS ks), .sl f3 1 (rPartSS vs)] g p r (attS m q ks s m.heads.toNat) (allHI m q ks vs) := by
 obtain ⟨s1, s2, s3, s4, s5, s6, s7⟩ := size_t ht
 have hl := hq.len ht
 have hnat := heads_nat ht
 have hlen : (headsL q (sizeH m) m.heads.toNat).length = m.heads.toNat := headsL_len
 have hNp : ∀ b, p = some b → b < hn g .mk + 1 := fun b e => by have := (mt b e).1; omega
 have pne : p ≠ some (hn g .mk) := fun e => by have := (mt _ e).1; omega
 refine begins [[0, 1, 2, 3], [1, 2, 3, 4], [2, 3, 4, 10, 11], [], [2, 3, 4, 10], [2, 3, 4, 10, 12], [2, 3, 4, 12, 31, 32, 33], [2, 3, 4, 12, 31, 32, 33], [2, 3, 4, 12, 13, 14, 31, 32, 33], [2, 3, 4, 12, 13, 14, 15, 31, 32, 33], [2, 3, 4, 12, 13, 14, 15, 31, 32, 33], [2, 3, 4, 12, 13, 14, 15, 16, 31, 32, 33], [2, 3, 4, 12, 13, 14, 15, 31, 32, 33], [2, 3, 4, 12, 18, 19, 31, 32, 33], [], [2, 3, 4, 12, 18, 31, 32, 33], [2, 3, 4, 12, 31, 32, 33], [12]] Tryz.func185 rfl (rs := [.tmp 8, .tmp 9]) rfl rfl ?_
 intro wf
 repeat (first | rw [ko] | rw [kr] | simp -dsimp -implicitDefEqProofs only [go_sem, sQ1, hoo])
 have hA : ∀ n : Int, n = m.heads → WC2 Tryz.prog W0 224 [.sl f 1 (ints q), .raw (.int .i64 n)] (g.push ⟨15, [.raw (.int .i64 m.dim), .raw (.int .i64 m.heads), .raw (.int .i64 m.context), .sl (F 3) 2 (rMergeS m.merges), .sl (F 4) 1 (rIntSS m.embed), .sl (F 5) 32 (rLayerS m.layers), .sl (F 6) 1 (ints m.gainEnd), .raw (.int .i64 m.head.width), .sl (F 8) 1 (rIntSS m.head.rows), .sl (F 9) 1 (rIntSS m.head.scales), .raw (.int .i64 m.head.mul), .raw (.int .i64 m.head.shift), .sl (F 12) 1 (rIntSS m.turns.cos), .sl (F 13) 1 (rIntSS m.turns.sin), .raw (metV p)]⟩) (fun y g' => g' = (g.push ⟨15, [.raw (.int .i64 m.dim), .raw (.int .i64 m.heads), .raw (.int .i64 m.context), .sl (F 3) 2 (rMergeS m.merges), .sl (F 4) 1 (rIntSS m.embed), .sl (F 5) 32 (rLayerS m.layers), .sl (F 6) 1 (ints m.gainEnd), .raw (.int .i64 m.head.width), .sl (F 8) 1 (rIntSS m.head.rows), .sl (F 9) 1 (rIntSS m.head.scales), .raw (.int .i64 m.head.mul), .raw (.int .i64 m.head.shift), .sl (F 12) 1 (rIntSS m.turns.cos), .sl (F 13) 1 (rIntSS m.turns.sin), .raw (metV p)]⟩).up (hn g' .mk) ∧ hn (g.push ⟨15, [.raw (.int .i64 m.dim), .raw (.int .i64 m.heads), .raw (.int .i64 m.context), .sl (F 3) 2 (rMergeS m.merges), .sl (F 4) 1 (rIntSS m.embed), .sl (F 5) 32 (rLayerS m.layers), .sl (F 6) 1 (ints m.gainEnd), .raw (.int .i64 m.head.width), .sl (F 8) 1 (rIntSS m.head.rows), .sl (F 9) 1 (rIntSS m.head.scales), .raw (.int .i64 m.head.mul), .raw (.int .i64 m.head.shift), .sl (F 12) 1 (rIntSS m.turns.cos), .sl (F 13) 1 (rIntSS m.turns.sin), .raw (metV p)]⟩) .mk ≤ hn g' .mk ∧ ∃ f, y = .tp [.sl f 1 (rIntSS (headsL q (sizeH m) m.heads.toNat)), .raw (.bool true)]) := fun n e => by
  rw [e, hnat]
  exact headsA_ok (n := m.heads.toNat) (size := sizeH m) (by omega) (by omega) (by rw [hq.1, s2]) (by omega)
 refine pw_intro (hA _ rfl) ?_
 rintro _ n1 hn1 ⟨f4, rfl⟩
 simp only [hn_push] at hn1
 repeat (first | rw [ko] | rw [kr] | simp -dsimp -implicitDefEqProofs only [go_sem, sQ1, sQ3, hoo])
 refine lz_keep [2, 3, 4, 31, 32] (fun mm e h' => ∃ (i : Nat) (v : X), OnM p g h' ∧ hn g .mk + 1 ≤ hn h' .mk ∧ Mt p h' r (attS m q ks s i) ∧ hg h' (hn g .mk) .mk = some ⟨15, [.raw (.int .i64 m.dim), .raw (.int .i64 m.heads), .raw (.int .i64 m.context), .sl (F 3) 2 (rMergeS m.merges), .sl (F 4) 1 (rIntSS m.embed), .sl (F 5) 32 (rLayerS m.layers), .sl (F 6) 1 (ints m.gainEnd), .raw (.int .i64 m.head.width), .sl (F 8) 1 (rIntSS m.head.rows), .sl (F 9) 1 (rIntSS m.head.scales), .raw (.int .i64 m.head.mul), .raw (.int .i64 m.head.shift), .sl (F 12) 1 (rIntSS m.turns.cos), .sl (F 13) 1 (rIntSS m.turns.sin), .raw (metV p)]⟩ ∧ look e 33 .mk = .raw (.int .i64 (i : Nat)) ∧ look e 12 .mk = v ∧ mm + i = m.heads.toNat ∧ OwnI (hn g .mk + 1) h' v (allP m q ks vs i)) m.heads.toNat ?_ ?_
 ·have hne : (hn g .mk == n1) = false := zne
  exact ⟨0, _, OnM.push (OnM.up (OnM.push OnM.refl) (by rw [hn_push]; exact hn1)), by simp only [hn_push, hn_up]; omega, Mt.push (Mt.up mt.push (by rw [hn_push]; exact hn1)), by simp -dsimp -implicitDefEqProofs only [go_sem, hoo, hne], zsm, by simp -dsimp -implicitDefEqProofs only [go_sem, sQ1] <;> rfl, by omega, Own.new (by simp only [hn_up]; omega) rfl⟩
 rintro mm e h' hks ⟨i, v, onL, nn, mtL, row, ei, ev, hm, ow⟩
 simp -dsimp -implicitDefEqProofs only [go_sem, sQ1] at hks
 have hv := ownI_cell ow
 by_cases q1 : (i : Int) < (m.heads.toNat : Int)
 ·have q2 : i < m.heads.toNat := by omega
  have w1 := zwrs i (by omega)
  obtain ⟨hh1, hh2⟩ := head_t hq ht q2
  have hat := headsL_at (x := q) (s := sizeH m) q2
  have hpl := allP_len (ks := ks) (vs := vs) ht hq (Nat.le_of_lt q2)
  have hok := ofHead_t ht hks0 q2
  have hov := ofHead_t ht hvs q2
  have hi8 : i * sizeH m ≤ 16 := by
   have := Nat.mul_le_mul (show i ≤ 2 by omega) (show sizeH m ≤ 8 by omega)
   omega
  repeat (first | rw [ko] | rw [kr] | simp -dsimp -implicitDefEqProofs only [go_sem, sQ1, hks, ei, ev, q1, q2, hlen, hat])
  refine pw_intro (ofHeadA_ok (ks := ks) (partsAt ht hks0 q2) (by omega)) ?_
  rintro _ n1 hn1 ⟨f6, rfl⟩
  have hn2 := hn1
  cases p with
  | none =>
   repeat (first | rw [ko] | rw [kr] | simp -dsimp -implicitDefEqProofs only [go_sem, sQ1, row, metV])
   refine pw_intro (ofHeadA_ok (ks := vs) (partsAt ht hvs q2) (by omega)) ?_
   rintro _ n3 hn3 ⟨f4, rfl⟩
   repeat (first | rw [ko] | rw [kr] | simp -dsimp -implicitDefEqProofs only [go_sem])
   refine pw_intro (TI.pw (attendA_ok (q := headI q (sizeH m) i) (ks := ofHeadI ks i) (vs := ofHeadI vs i) hh2 (by omega) (by omega) (by rw [hh1]; exact rows_of ht hks0 q2) (by rw [hh1]; exact rows_of ht hvs q2) (by omega) (by omega) (by omega))) ?_
   rintro _ n4 hn4 ⟨⟨f5, rfl⟩, _⟩
   repeat (first | rw [ko] | rw [kr] | simp -dsimp -implicitDefEqProofs only [go_sem, sQ1])
   simp only [hn_up] at hn1 hn2 hn3 hn4
   have onS : OnM none h' _ := OnM.up (OnM.up (OnM.up OnM.refl hn1) (by simp only [hn_up]; omega)) (by simp only [hn_up]; omega)
   have owS := Own.on ow onS mtL hNp
   refine appI (P := Tryz.prog) Go.Ai.ty_el25 Go.Ai.ty_zr3 Go.Ai.ty_cl25 (by omega) owS (by simp only [hn_up]; omega) (by rw [hpl, attend_len, hh1]; omega) ?_
   intro v4 g4 ow4 nn4 on4
   rw [← allP_succ] at ow4
   have row4 : hg g4 (hn g .mk) .mk = _ := (on4 (hn g .mk) (by omega)).trans ((onS.2 (hn g .mk) (by omega) pne).trans row)
   have onG := onL.trans onS
   repeat (first | rw [ko] | rw [kr] | simp -dsimp -implicitDefEqProofs only [go_sem, sQ1, w1])
   exact nx_keep (mm - 1) (by omega) (by simp -dsimp -implicitDefEqProofs only [go_sem, sQ1, hlen]) ⟨i + 1, v4, OnM.below onG (by omega) nn4 on4, nn4, Mt.below (Mt.none) hNp nn4 on4, row4, zsm, zsm, by omega, ow4⟩
  | some b =>
   obtain ⟨hb, mrow⟩ := mtL b rfl
   have hb0 := (mt b rfl).1
   unfold metO at mrow
   have b1 : (hn g .mk == b) = false := zne
   have b2 : (b == hn g .mk) = false := zne
   repeat (first | rw [ko] | rw [kr] | simp -dsimp -implicitDefEqProofs only [go_sem, sQ1, row, metV])
   refine pw_intro (TI.pw (scoresA_ok (q := headI q (sizeH m) i) (ks := ofHeadI ks i) hh2 (by omega) (by omega) (by rw [hh1]; exact rows_of ht hks0 q2) (by omega))) ?_
   rintro _ n2 hn2 ⟨⟨f7, rfl⟩, _⟩
   repeat (first | rw [ko] | rw [kr] | simp -dsimp -implicitDefEqProofs only [go_sem, sQ1])
   refine dq_intro [(0, []), (1, []), (2, []), (3, []), (4, []), (5, []), (6, []), (7, []), (8, [1]), (9, []), (10, []), (11, [])] (by kernel_rfl) ?_
   repeat (first | rw [ko] | rw [kr] | simp -dsimp -implicitDefEqProofs only [go_sem, sQ1, row, metV, mrow])
   refine wz_intro (greatA_ok (l := (ofHeadI ks i).map (scoreI (headI q (sizeH m) i))) (fun y hy => by
    obtain ⟨k, hk, rfl⟩ := List.mem_map.1 hy
    have := score_abs hh2 (hok.2.1 k hk) (by omega)
    omega) (by rw [List.length_map]; omega)) ?_
   rintro _ _ ⟨rfl, rfl⟩
   repeat (first | rw [ko] | rw [kr] | simp -dsimp -implicitDefEqProofs only [go_sem, sQ1, row, metV, mrow])
   refine pw_intro (ofHeadA_ok (ks := vs) (partsAt ht hvs q2) (by omega)) ?_
   rintro _ n3 hn3 ⟨f4, rfl⟩
   repeat (first | rw [ko] | rw [kr] | simp -dsimp -implicitDefEqProofs only [go_sem])
   refine pw_intro (TI.pw (attendA_ok (q := headI q (sizeH m) i) (ks := ofHeadI ks i) (vs := ofHeadI vs i) hh2 (by omega) (by omega) (by rw [hh1]; exact rows_of ht hks0 q2) (by rw [hh1]; exact rows_of ht hvs q2) (by omega) (by omega) (by omega))) ?_
   rintro _ n4 hn4 ⟨⟨f5, rfl⟩, _⟩
   repeat (first | rw [ko] | rw [kr] | simp -dsimp -implicitDefEqProofs only [go_sem, sQ1])
   simp only [hn_up, hn_set] at hn1 hn2 hn3 hn4
   have onS : OnM (some b) h' _ := OnM.up (OnM.up (OnM.setb (k := metO r (attS m q ks s (i + 1))) (OnM.up (OnM.up OnM.refl hn1) (by simp only [hn_up]; omega))) (by simp only [hn_up, hn_set]; omega)) (by simp only [hn_up]; omega)
   have owS := Own.on ow onS mtL hNp
   refine appI (P := Tryz.prog) Go.Ai.ty_el25 Go.Ai.ty_zr3 Go.Ai.ty_cl25 (by omega) owS (by simp only [hn_up]; omega) (by rw [hpl, attend_len, hh1]; omega) ?_
   intro v4 g4 ow4 nn4 on4
   rw [← allP_succ] at ow4
   have row4 : hg g4 (hn g .mk) .mk = _ := (on4 (hn g .mk) (by omega)).trans ((onS.2 (hn g .mk) (by omega) pne).trans row)
   have onG := onL.trans onS
   repeat (first | rw [ko] | rw [kr] | simp -dsimp -implicitDefEqProofs only [go_sem, sQ1, w1])
   exact nx_keep (mm - 1) (by omega) (by simp -dsimp -implicitDefEqProofs only [go_sem, sQ1, hlen]) ⟨i + 1, v4, OnM.below onG (by omega) nn4 on4, nn4, Mt.below (Mt.up (Mt.up (Mt.setb (r := r) (s := attS m q ks s (i + 1)) (by simp only [hn_up]; omega)) (by simp only [hn_up, hn_set]; omega)) (by simp only [hn_up]; omega)) hNp nn4 on4, row4, zsm, zsm, by omega, ow4⟩
 ·repeat (first | rw [ko] | rw [kr] | simp -dsimp -implicitDefEqProofs only [go_sem, sQ1, hks, ei, ev, q1, hv, hlen])
  have hi : i = m.heads.toNat := by omega
  subst hi
  exact ⟨onL, mtL, v, rfl, ow.wide (by omega)⟩
end Go.Bi
end
section
set_option maxRecDepth 20000
namespace Go.Bi
open Go.Proofs
open Go.Ai (wrap_i64 Heap)
variable {W0 : World} {P : Program}
set_option maxHeartbeats 4000000
def isFzX : X → Bool
 | .raw _ => true
 | .sl _ _ _ => true
 | _ => false
theorem fz_self {p : Nat → Prop} {g : H2} {x : X} (h : isFzX x = true) : Fz p (fun _ => True) g x x := by
 cases x with
 | raw => exact .raw
 | sl f z es => exact .sl (.sl (allT_true _ _))
 | pr => cases h
 | st => cases h
 | tp => cases h
theorem fz_st {p : Nat → Prop} {g : H2} {xs : List X} (h : xs.all isFzX = true) : Fz p (fun _ => True) g (.st xs) (.st xs) := .st rfl fun i hi hi' => fz_self (List.all_eq_true.1 h _ (List.getElem_mem hi))
def bentR (l : LLayer) (x : List Int) (r : Int) : Int := greatI (greatI r (wideI l.up (normI x l.gain2))) (wideI l.down ((applyI l.up (normI x l.gain2)).map bendI))
def bentI (l : LLayer) (x : List Int) : List Int := applyI l.down ((applyI l.up (normI x l.gain2)).map bendI)
theorem bent_abs {l : List Int} (h : absB 127 l) : absB 127 (l.map bendI) := fun y hy => by
 obtain ⟨x, hx, rfl⟩ := List.mem_map.1 hy
 exact bend_abs (h x hx)
theorem bentR_ok {F F' : Nat → Adr} {m : LModel} {l : LLayer} {p : Option Nat} {r s : Int} {f : Adr} {x : List Int} {g : H2} (mt : Mt p g r s) (ht : ModT m) (hlay : layB l m.dim = true) (hx : VecM m 1000 x) :
  PM Tryz.prog W0 187 [.st (xRun F m (metV p)), .st (xLayer F' l), .sl f 1 (ints x)] g p (bentR l x r) s fun y => (∃ f, y = .tp [.sl f 1 (ints (bentI l x)), .raw (.bool true)]) ∧ AllB (fun b => hn g .mk ≤ b) y := by
 refine (PM.of (q := fun b => hn g .mk ≤ b) (Q := fun y => ∃ f, y = .tp [.sl f 1 (ints (bentI l x)), .raw (.bool true)]) mt ?_).mono fun y ⟨h1, h2⟩ => ⟨h1, h2.imp fun b hb => hb.elim id id⟩
 obtain ⟨y1, y2, y3, y4, y5, y6, y7, y8, y9⟩ := lay_t hlay
 have hg2 := gain_t y2
 have hl := hx.len ht
 have hh : VecM m 127 (normI x l.gain2) := hx.norm
 have hhl := hh.len ht
 have hu := with_t y8
 have hdn := with_t y9
 have hd := ht.dim
 have hul : (applyI l.up (normI x l.gain2)).length = l.up.rows.length := applyI_len
 have hua : absB 127 (applyI l.up (normI x l.gain2)) := applyI_abs
 refine begins [[0, 1, 2], [2, 3, 4], [3, 4, 8, 9], [], [3, 4, 8], [3, 4, 9, 10], [], [3, 4, 10], [3, 4, 10, 32, 33, 34], [3, 4, 10, 32, 33, 34], [3, 4, 10, 11, 12, 32, 33, 34], [3, 4, 10, 32, 33, 34], [3, 4, 10]] Tryz.func187 rfl (rs := [.tmp 6, .tmp 7]) rfl rfl ?_
 intro wf
 have hne : (hn g .mk == hn g .mk + 1) = false := by simp
 repeat (first | rw [ko] | rw [kr] | simp -dsimp -implicitDefEqProofs only [go_sem, sQ1, hoo])
 refine pw_intro (TI.pw (normA_ok hx.2 (by omega) (by omega) (by omega) hg2.2.1)) ?_
 rintro _ n1 hn1 ⟨⟨f1, rfl⟩, _⟩
 simp only [hn_push] at hn1
 repeat (first | rw [ko] | rw [kr] | simp -dsimp -implicitDefEqProofs only [go_sem, sQ1, hoo, hne])
 refine wz_intro (applyA_ok (F := F) (F' := fun j => F' (j + 22)) (Mt.up (n := n1) (mt.push.push) (by simp only [hn_push]; omega)) hu.1 (by omega) (by omega) hh.2) ?_
 rintro _ g2 ⟨on2, mt2, v, rfl, ow⟩
 have p1 := mt.ne (c := hn g .mk) (Nat.le_refl _)
 have p2 := mt.ne (c := hn g .mk + 1) (by omega)
 have nn2 := on2.1
 simp only [hn_up] at nn2 ow
 have r1 : hg g2 (hn g .mk) .mk = _ := on2.at (c := hn g .mk) (by simp only [hn_up]; omega) p1 (by simp -dsimp -implicitDefEqProofs only [go_sem, hoo, hne] <;> rfl)
 have r2 : hg g2 (hn g .mk + 1) .mk = _ := on2.at (c := hn g .mk + 1) (by simp only [hn_up]; omega) p2 (by simp -dsimp -implicitDefEqProofs only [go_sem, hoo] <;> rfl)
 obtain ⟨b, rfl, hb1, hb2, hb3⟩ := ownI_inv ow (by omega)
 have on1 : OnM p g _ := OnM.trans (OnM.up (n := n1) (OnM.push (OnM.push OnM.refl)) (by simp only [hn_push]; omega)) on2
 have pb : (p == some b) = false := mt.ne (by omega)
 have hb1' : (hn g .mk == b) = false := zne
 have hb2' : (hn g .mk + 1 == b) = false := zne
 repeat (first | rw [ko] | rw [kr] | simp -dsimp -implicitDefEqProofs only [go_sem, sQ1, hul])
 refine lz_keep [3, 4, 10, 32, 33] (fun mm e h' => ∃ (i : Nat), OnM p g h' ∧ b < hn h' .mk ∧ Mt p h' (greatI r (wideI l.up (normI x l.gain2))) s ∧ hg h' (hn g .mk) .mk = some ⟨15, [.raw (.int .i64 m.dim), .raw (.int .i64 m.heads), .raw (.int .i64 m.context), .sl (F 3) 2 (rMergeS m.merges), .sl (F 4) 1 (rIntSS m.embed), .sl (F 5) 32 (rLayerS m.layers), .sl (F 6) 1 (ints m.gainEnd), .raw (.int .i64 m.head.width), .sl (F 8) 1 (rIntSS m.head.rows), .sl (F 9) 1 (rIntSS m.head.scales), .raw (.int .i64 m.head.mul), .raw (.int .i64 m.head.shift), .sl (F 12) 1 (rIntSS m.turns.cos), .sl (F 13) 1 (rIntSS m.turns.sin), .raw (metV p)]⟩ ∧ hg h' (hn g .mk + 1) .mk = some ⟨32, xLayer F' l⟩ ∧ look e 34 .mk = .raw (.int .i64 (i : Nat)) ∧ mm + i = l.up.rows.length ∧ hg h' b .mk = some ⟨1, (updI bendI (applyI l.up (normI x l.gain2)) i).map cI⟩) l.up.rows.length ?_ ?_
 ·exact ⟨0, on1, hb2, mt2, r1, r2, zsm, by omega, hb3⟩
 rintro mm e h' hks ⟨i, onL, hbn, mtL, row1, row2, ei, hm, rowb⟩
 simp -dsimp -implicitDefEqProofs only [go_sem, sQ1] at hks
 by_cases q1 : (i : Int) < (l.up.rows.length : Int)
 ·have q2 : i < l.up.rows.length := by omega
  have q3 : i < (applyI l.up (normI x l.gain2)).length := by omega
  have q4 : i < (updI bendI (applyI l.up (normI x l.gain2)) i).length := by rw [upd_len (by omega)]; exact q3
  have w1 := zwrs i (by omega)
  have hgt := getW q4
  rw [upd_at q3] at hgt
  have hxi := getD_abs (by omega) hua i
  have hwr := wrtW (v := bendI ((applyI l.up (normI x l.gain2)).getD i default)) q4
  rw [upd_set q3] at hwr
  have hi3 : (0 : Int) ≤ (i : Int) ∧ (i : Int) < (l.up.rows.length : Int) := by omega
  repeat (first | rw [ko] | rw [kr] | simp -dsimp -implicitDefEqProofs only [go_sem, sQ1, hks, ei, q1, rowb, hgt, hi3, Int.toNat_natCast])
  refine wz_intro (bendA_ok hxi) ?_
  rintro _ _ ⟨rfl, rfl⟩
  repeat (first | rw [ko] | rw [kr] | simp -dsimp -implicitDefEqProofs only [go_sem, sQ1, q1, rowb, hwr, w1, hi3, Int.toNat_natCast])
  exact nx_keep (mm - 1) (by omega) zsm ⟨i + 1, OnM.put onL (by omega), hbn, mtL.put pb, by simp -dsimp -implicitDefEqProofs only [go_sem, hb1', row1], by simp -dsimp -implicitDefEqProofs only [go_sem, hb2', row2], zsm, by omega, by simp -dsimp -implicitDefEqProofs only [go_sem, hoo]⟩
 have hi : i = (applyI l.up (normI x l.gain2)).length := by omega
 rw [hi, upd_all] at rowb
 have ow2 : OwnI b h' (.raw (.slice (some ⟨b, 0, none⟩) l.up.rows.length l.up.rows.length)) ((applyI l.up (normI x l.gain2)).map bendI) := ownI_mk (by rw [List.length_map]; omega) (Nat.le_refl _) hbn rowb
 obtain ⟨f9, hf9⟩ := OwnI.fz (p := fun c => p ≠ some c) (q := fun _ => True) ow2 (fun c hc e => by have := (mt c e).1; omega)
 repeat (first | rw [ko] | rw [kr] | simp -dsimp -implicitDefEqProofs only [go_sem, sQ1, hks, ei, q1, row1, row2])
 refine pm_intro (PM.lend (.cons (fz_st (xs := xRun F m (metV p)) rfl) (.cons (fz_st (xs := xMatrix (fun j => F' (j + 27)) l.down) rfl) (.cons hf9 .nil))) mtL (MI.pm mtL.bar (applyA_ok (F := F) (F' := fun j => F' (j + 27)) mtL.bar hdn.1 (by omega) (by rw [List.length_map]; omega) (bent_abs hua))) fun y hy => by have := hy.2; rwa [hn_barM] at this) ?_
 rintro _ n9 hn9 ⟨⟨f10, rfl⟩, hall⟩
 rw [hn_barM] at hall
 repeat (first | rw [ko] | rw [kr] | simp -dsimp -implicitDefEqProofs only [go_sem, sQ1])
 refine ⟨OnM.up (OnM.gM onL) (by rw [hn_gM]; exact hn9), Mt.up (Mt.set mtL) (by rw [hn_gM]; exact hn9), _, fz2 (.sl (by cases hall with | tp hh => exact (hh _ List.mem_cons_self).imp fun c hc => Nat.le_trans onL.1 hc)) .raw, f10, rfl⟩
def stepR (m : LModel) (l : LLayer) (k : Nat) (x : List Int) (ks vs : List (List LPart)) (r : Int) : Int :=
 bentR l (midI m l k x ks vs) (greatI (greatI r (wideI l.q (normI x l.gain1))) (wideI l.o (allHI m (turnM m k (applyI l.q (normI x l.gain1))) ks vs)))
def stepS (m : LModel) (l : LLayer) (k : Nat) (x : List Int) (ks : List (List LPart)) (s : Int) : Int := attS m (turnM m k (applyI l.q (normI x l.gain1))) ks s m.heads.toNat
theorem stepR_ok {F : Nat → Adr} {m : LModel} {p : Option Nat} {r s : Int} {f f2 f3 : Adr} {x : List Int} {ks vs : List (List LPart)} {i k : Nat} {g : H2} (mt : Mt p g r s) (ht : ModT m) (hi : i < m.layers.length) (hk : (k : Int) < m.context) (hx : VecM m 1000 x) (hks0 : PartsM m ks) (hvs : PartsM m vs) (hlk : vs.length = ks.length) (hk1 : 1 ≤ ks.length) (hk32 : ks.length ≤ 32) :
  MI Tryz.prog W0 134 [.st (xRun F m (metV p)), .raw (.int .i64 i), .raw (.int .i64 k), .sl f 1 (ints x), .sl f2 1 (rPartSS ks), .sl f3 1 (rPartSS vs)] g p (stepR m (m.layers.getD i default) k x ks vs r) (stepS m (m.layers.getD i default) k x ks s) (stepI m (m.layers.getD i default) k x ks vs) := by
 have hlay := ht.lay i hi
 obtain ⟨y1, y2, y3, y4, y5, y6, y7, y8, y9⟩ := lay_t hlay
 have hg1 := gain_t y1
 have hl := hx.len ht
 have hh : VecM m 127 (normI x (m.layers.getD i default).gain1) := hx.norm
 have hq : VecM m 127 (turnM m k (applyI (m.layers.getD i default).q (normI x (m.layers.getD i default).gain1))) := VecM.turn (VecM.app y4 ht)
 have hall : VecM m 127 (allHI m (turnM m k (applyI (m.layers.getD i default).q (normI x (m.layers.getD i default).gain1))) ks vs) := all_ok ht hq
 have hhl := hall.len ht
 have ho := with_t y7
 have hoI : VecM m 127 (applyI (m.layers.getD i default).o (allHI m (turnM m k (applyI (m.layers.getD i default).q (normI x (m.layers.getD i default).gain1))) ks vs)) := VecM.app y7 ht
 have hmid : VecM m 500 (midI m (m.layers.getD i default) k x ks vs) := mid_ok hx
 have hdI : VecM m 127 (bentI (m.layers.getD i default) (midI m (m.layers.getD i default) k x ks vs)) := VecM.app y9 ht
 have hol := hoI.len ht
 have hml := hmid.len ht
 have hdl := hdI.len ht
 have hd := ht.dim
 refine begins [[0, 1, 2, 3, 4, 5], [1, 2, 3, 4, 5, 6], [2, 3, 4, 5, 6, 14], [2, 3, 4, 5, 6, 14, 15, 16], [], [2, 3, 4, 5, 6, 14, 15], [3, 4, 5, 6, 14, 16, 17], [], [3, 4, 5, 6, 14, 17], [3, 6, 14, 16, 18], [], [3, 6, 14, 18], [3, 6, 14, 16, 19], [], [3, 6, 14, 19], [6, 14, 16, 20], [], [6, 14, 20], [16, 20, 21], [], [20, 21]] Tryz.func134 rfl (rs := [.tmp 12, .tmp 13]) rfl rfl ?_
 intro wf
 have hne : (hn g .mk == hn g .mk + 1) = false := by simp
 have p1 := mt.ne (c := hn g .mk) (Nat.le_refl _)
 have p2 := mt.ne (c := hn g .mk + 1) (by omega)
 repeat (first | rw [ko] | rw [kr] | simp -dsimp -implicitDefEqProofs only [go_sem, sQ1, sQ2, sQ3, hoo, hi])
 refine pw_intro (TI.pw (normA_ok hx.2 (by omega) (by omega) (by omega) hg1.2.1)) ?_
 rintro _ n1 hn1 ⟨⟨f4, rfl⟩, _⟩
 simp only [hn_push, hn_set] at hn1
 repeat (first | rw [ko] | rw [kr] | simp -dsimp -implicitDefEqProofs only [go_sem, sQ1, hoo, hne])
 refine mi_call (by exact Mt.up (Mt.put (mt.push.push) p2) (by simp only [hn_push, hn_set]; omega)) (fun mt1 => turnedA_ok (F := F) (F' := fun j => under (under (F 5) i) (j + 1)) mt1 ht y4 hh hk) ?_
 rintro _ n2 hn2 mt2 on2 ⟨⟨f5, rfl⟩, _⟩
 simp only [hn_up] at hn2
 repeat (first | rw [ko] | rw [kr] | simp -dsimp -implicitDefEqProofs only [go_sem, sQ1, hoo, hne, hg_gM p1])
 refine mi_call (by exact mt2) (fun mt2 => attendR_ok (F := F) mt2 ht hq hks0 hvs hlk hk1 hk32) ?_
 rintro _ n3 hn3 mt3 on3 ⟨⟨f6, rfl⟩, _⟩
 simp only [hn_up] at hn3
 repeat (first | rw [ko] | rw [kr] | simp -dsimp -implicitDefEqProofs only [go_sem, sQ1, hoo, hne, hg_gM p1, hg_gM p2])
 refine mi_call (by exact mt3) (fun mt3 => applyA_ok (F := F) (F' := fun j => under (under (F 5) i) (j + 16)) mt3 ho.1 (by omega) (by omega) hall.2) ?_
 rintro _ n4 hn4 mt4 on4 ⟨⟨f7, rfl⟩, _⟩
 simp only [hn_up] at hn4
 repeat (first | rw [ko] | rw [kr] | simp -dsimp -implicitDefEqProofs only [go_sem, sQ1, hoo])
 refine pw_intro (TI.pw (addA_ok (x := x) (y := applyI (m.layers.getD i default).o (allHI m (turnM m k (applyI (m.layers.getD i default).q (normI x (m.layers.getD i default).gain1))) ks vs)) hx.2 (absB_mono hoI.2 (by omega)) (by omega) (by omega))) ?_
 rintro y n5 hn5 ⟨⟨f8, hy⟩, _⟩
 obtain rfl : y = .tp [.sl f8 1 (ints (midI m (m.layers.getD i default) k x ks vs)), .raw (.bool true)] := hy
 simp only [hn_up] at hn5
 repeat (first | rw [ko] | rw [kr] | simp -dsimp -implicitDefEqProofs only [go_sem, sQ1, hoo, hne, hg_gM p1, hg_gM p2])
 have mt5 := Mt.up (n := n5) mt4 hn5
 refine pm_intro (bentR_ok (F := F) (F' := fun j => under (under (F 5) i) j) (l := m.layers.getD i default) mt5 ht hlay (hmid.mono (by omega))) ?_
 rintro _ n6 hn6 ⟨⟨f9, rfl⟩, _⟩
 simp only [hn_up] at hn6
 repeat (first | rw [ko] | rw [kr] | simp -dsimp -implicitDefEqProofs only [go_sem, sQ1, hoo])
 refine wz_intro (addA_ok (x := midI m (m.layers.getD i default) k x ks vs) (y := bentI (m.layers.getD i default) (midI m (m.layers.getD i default) k x ks vs)) (absB_mono hmid.2 (by omega)) (absB_mono hdI.2 (by omega)) (by omega) (by omega)) ?_
 rintro _ g7 ⟨l7, v, rfl, ow⟩
 have c0 := ownI_cell ow
 simp only [hn_up] at ow
 repeat (first | rw [ko] | rw [kr] | simp -dsimp -implicitDefEqProofs only [go_sem, sQ1, c0])
 refine ⟨OnM.le (OnM.up (OnM.gM (OnM.up (OnM.trans (OnM.trans (OnM.trans (OnM.up (OnM.put (OnM.push (OnM.push OnM.refl)) (by omega)) (by simp only [hn_push, hn_set]; omega)) on2) on3) on4) hn5)) (by simp only [hn_up, hn_gM]; omega)) l7, Mt.le (Mt.up (Mt.set mt5) (by simp only [hn_up, hn_gM]; omega)) l7, v, rfl, ow.wide (by omega)⟩
end Go.Bi
end
section
set_option maxRecDepth 20000
namespace Go.Bi
open Go.Proofs
open Go.Ai (wrap_i64 Heap)
variable {W0 : World} {P : Program}
set_option maxHeartbeats 4000000
theorem fz3 {p q : Nat → Prop} {g : H2} {x y x2 y2 x3 y3 : X} (h : Fz p q g x y) (h2 : Fz p q g x2 y2) (h3 : Fz p q g x3 y3) : Fz p q g (.tp [x, x2, x3]) (.tp [y, y2, y3]) := .tp rfl fun i hi hi' => by
 rcases i with _ | _ | _ | i
 ·exact h
 ·exact h2
 ·exact h3
 ·simp at hi; omega
theorem fzs2 {p q : Nat → Prop} {g : H2} {x y x2 y2 : X} (h : Fz p q g x y) (h2 : Fz p q g x2 y2) : Fz p q g (.st [x, x2]) (.st [y, y2]) := .st rfl fun i hi hi' => by
 rcases i with _ | _ | i
 ·exact h
 ·exact h2
 ·simp at hi; omega
theorem append_new {g : H2} {K : KT} {t u U z y N n : Nat} {zs : List Value} {cs news : List X} {x v : X} (he : Go.Ai.elt? P t = some (U, z + 1, y)) (hz : Go.Ai.zr? P U = some zs) (hl : zs.length = z + 1) (hu : Go.Ai.cls? P u = some .sl)
    (hx : Own N g x (z + 1) n cs) (hs : srcX g (z + 1) v = some (1, news)) (hlen : news.length = z + 1) (hok : news.all okX = true) (hn0 : (n + 1) * (y + 1) ≤ Go.Ai.most)
    (hk : ∀ g', hg g' (hn g .mk) .mk = some ⟨z + 1, cs ++ news⟩ → hn g' .mk = hn g .mk + 1 → (∀ b, b < hn g .mk → blockOf x ≠ some b → hg g' b .mk = hg g b .mk) → kz K (.raw (.slice (some ⟨hn g .mk, 0, none⟩) (n + 1) (n + 1))) g' .mk) :
    az (biz P g .append [t, u] [x, v] .mk) K .mk := by
  obtain ⟨hlen0, hcase⟩ := hx
  have key : ∀ a, x = .raw (.slice a n n) → biz P g .append [t, u] [x, v] .mk = (match a with
        | none => some (.raw (.slice (some ⟨g.n, 0, none⟩) 1 1), g.push ⟨z + 1, news⟩)
        | some a => match g.get a.block with
          | some k => if k.z = z + 1 ∧ a.off = 0 then (rdL k.cs 0 (n * (z + 1))).map fun olds => (.raw (.slice (some ⟨g.n, 0, none⟩) (n + 1) (n + 1)), (g.kill a.block).push ⟨z + 1, olds ++ news⟩) else none
          | none => none) := by
    intro a ha
    subst ha
    simp only [biz, builtinX, hu, appendX, he, hs, hz]
    rw [if_pos ⟨hl, hn0, hok⟩, if_neg (by omega)]
    rfl
  have hmv : ∀ b : Nat, (b == b) = true := by simp
  rcases hcase with ⟨rfl, rfl⟩ | ⟨b, rfl, hNb, hbn, hb⟩
  · have hcs : cs = [] := List.eq_nil_of_length_eq_zero (by omega)
    subst hcs
    rw [key none rfl]
    refine hk _ ?_ (by rw [hn_push]) ?_
    · rw [hg_push]; show Go.Bi.hk (g.n == g.n) _ _ _ _ = _; rw [hmv]; rfl
    · intro b' hb' _
      rw [hg_push, show (b' == hn g .mk) = false by simp; omega]; rfl
  · have hb' : g.get b = some ⟨z + 1, cs⟩ := hb
    rw [key _ rfl]
    simp only [hb']
    rw [if_pos ⟨trivial, trivial⟩, rd_all hlen0]
    refine hk _ ?_ (by rw [hn_push, hn_kill]) ?_
    · rw [hg_push, hn_kill]; show Go.Bi.hk (g.n == g.n) _ _ _ _ = _; rw [hmv]; rfl
    · intro b' hb2 hne'
      have hbb : (b' == b) = false := by
        have : ¬ b' = b := fun e => hne' (by rw [e]; rfl)
        simp [this]
      rw [hg_push, hn_kill, show (b' == hn g .mk) = false by simp; omega, hk_f, hg_kill, hbb]; rfl
def RowF {α : Type} (e : α → List T) (z : Nat) (g : H2) (b : Nat) (l : List α) : Prop := b < hn g .mk ∧ ∃ cs, hg g b .mk = some ⟨z, cs⟩ ∧ ERow e z cs l
theorem RowF.own {α : Type} {e : α → List T} {z N : Nat} {g : H2} {b : Nat} {l : List α} (r : RowF e z g b l) (h : N ≤ b) : ∃ cs, Own N g (.raw (.slice (some ⟨b, 0, none⟩) l.length l.length)) z l.length cs ∧ ERow e z cs l := by
 obtain ⟨h1, cs, h2, h3⟩ := r
 exact ⟨cs, ⟨h3.2.2, .inr ⟨b, rfl, h, h1, h2⟩⟩, h3⟩
theorem RowF.keep {α : Type} {e : α → List T} {z : Nat} {g g' : H2} {b : Nat} {l : List α} (r : RowF e z g b l) (hn' : hn g .mk ≤ hn g' .mk) (h : hg g' b .mk = hg g b .mk) : RowF e z g' b l := by
 obtain ⟨h1, cs, h2, h3⟩ := r
 exact ⟨by omega, cs, h.trans h2, h3⟩
theorem appF {α : Type} {e : α → List T} {z : Nat} (hE : Ele e (z + 1)) {g : H2} {K : KT} {t u U y b n : Nat} {zs : List Value} {l : List α} {a : α} {f : Adr} (he : Go.Ai.elt? P t = some (U, z + 1, y)) (hz : Go.Ai.zr? P U = some zs) (hl : zs.length = z + 1) (hu : Go.Ai.cls? P u = some .sl)
  (hy : y ≤ 1000) (hx : RowF e (z + 1) g b l) (hnl : n = l.length) (hn0 : l.length ≤ 1048576)
  (hk : ∀ g', RowF e (z + 1) g' (hn g .mk + 1) (l ++ [a]) → hn g' .mk = hn g .mk + 2 → (∀ c, c < hn g .mk → c ≠ b → hg g' c .mk = hg g c .mk) → kz K (.raw (.slice (some ⟨hn g .mk + 1, 0, none⟩) (n + 1) (n + 1))) g' .mk) :
  az (biz P (g.up (hn g .mk + 1)) .append [t, u] [.raw (.slice (some ⟨b, 0, none⟩) n n), .sl f (z + 1) [e a]] .mk) K .mk := by
 subst hnl
 obtain ⟨cs, ow, hc⟩ := hx.own (Nat.zero_le b)
 have h2 : ERow e (z + 1) (flatX f 0 ([a].map e)) [a] := flat_E hE
 refine append_new (z := z) (N := 0) (news := flatX f 0 ([a].map e)) he hz hl hu (Own.keep ow (le_up (H2.le.refl _) (Nat.le_succ (hn g .mk)))) ?_ (by have := h2.2.2; simpa using this) h2.ok ?_ ?_
 ·simp only [srcX, if_true, List.map_cons, List.map_nil, List.length_cons, List.length_nil]
 ·have : Go.Ai.most = 1099511627776 := rfl
  have : (l.length + 1) * (y + 1) ≤ 1048577 * 1001 := Nat.mul_le_mul (by omega) (by omega)
  omega
 intro g' h3 h4 h5
 rw [hn_up] at h3 h4
 exact hk g' ⟨by omega, _, h3, hc.app h2⟩ h4 fun c h6 h7 => h5 c (by rw [hn_up]; omega) (by simp only [blockOf, ne_eq, Option.some.injEq]; omega)
theorem mix_fz {p : Nat → Prop} {g : H2} {b n : Nat} {cs : List X} {l : List (List LPart)} {w : X} {ps : List LPart} {bs : List Nat} (hb : hg g b .mk = some ⟨1, cs ++ [w]⟩) (hc : ERow ePartS 1 cs l) (hw : OT g bs w (.l 2 (rPartS ps))) (hpb : p b) (hbs : ∀ c ∈ bs, p c) (hnl : n = l.length + 1) :
  ∃ f, Fz p (fun _ => True) g (.raw (.slice (some ⟨b, 0, none⟩) n n)) (.sl f 1 (rPartSS (l ++ [ps]))) := by
 subst hnl
 obtain ⟨f0, hf0⟩ := OT.fz (p := p) (q := fun _ => True) hw hbs
 have hcl := hc.2.2
 rw [Nat.mul_one] at hcl
 have hts : toTs (cs ++ [mkG f0 (.l 2 (rPartS ps))]) = some ((l ++ [ps]).flatMap ePartS) := by
  rw [List.flatMap_append]
  exact toTs_app hc.1 rfl
 have h := Fz.own (p := p) (q := fun _ => True) (g := g) (b := b) (n := l.length + 1) (z := 1) (cs := cs ++ [w]) (cs' := cs ++ [mkG f0 (.l 2 (rPartS ps))]) hb hpb (by simp [hcl]) (by simp) (fun i hi hi' => ?_) hts
 ·have e := chunk_E elePS (l := l ++ [ps])
  rw [List.length_append] at e
  rw [show l.length + 1 = l.length + [ps].length from rfl, e] at h
  exact ⟨_, h⟩
 ·by_cases hlt : i < cs.length
  ·rw [List.getElem_append_left hlt, List.getElem_append_left hlt]
   rcases hc.2.1 _ (List.getElem_mem hlt) with ⟨n, e⟩ | ⟨f, k, es, e⟩
   ·rw [e]; exact .raw
   ·rw [e]; exact .sl (.sl (allT_true _ _))
  ·have : i = cs.length := by simp at hi; omega
   subst this
   simpa using hf0
theorem Gr.on {N : Nat} {g g' : H2} {v : X} {z n : Nat} {ts : List T} {bs : List Nat} {p : Option Nat} {r s : Int} (gr : Gr N g v z n ts bs) (l : OnM p g g') (m : Mt p g r s) (hN : ∀ b, p = some b → b < N) : Gr N g' v z n ts bs := by
 obtain ⟨cs, o, t, b, d⟩ := gr
 refine ⟨cs, o.on l m hN, t.frame fun c hc => l.2 c (b.2 c hc).2 fun e => ?_, b.wide (Nat.le_refl _) l.1, d⟩
 have := hN c e
 have := (b.2 c hc).1
 omega
theorem Gr.frame {N : Nat} {g g' : H2} {v : X} {z n : Nat} {ts : List T} {bs : List Nat} (gr : Gr N g v z n ts bs) (hn' : hn g .mk ≤ hn g' .mk) (h : ∀ c, c ∈ bs ∨ blockOf v = some c → hg g' c .mk = hg g c .mk) : Gr N g' v z n ts bs := by
 obtain ⟨cs, ⟨o1, o2⟩, t, b, d⟩ := gr
 refine ⟨cs, ⟨o1, o2.imp_right fun ⟨q, e1, e2, e3, e4⟩ => ⟨q, e1, e2, by omega, (h q (.inr (by rw [e1]; rfl))).trans e4⟩⟩, t.frame fun c hc => h c (.inl hc), b.wide (Nat.le_refl _) hn', d⟩
theorem Gr.put {N c : Nat} {g : H2} {v : X} {z n : Nat} {ts : List T} {bs : List Nat} {k : OB} (gr : Gr N g v z n ts bs) (h : c < N) : Gr N (g.set c k) v z n ts bs := gr.frame (Nat.le_refl _) fun d hd => by
 have : N ≤ d := hd.elim (fun h => (gr.bl d h).1) (fun h => (gr.lt d h).1)
 rw [hg_set, show (d == c) = false by simp; omega]; rfl
theorem OT.put {N c : Nat} {g : H2} {x : X} {t : T} {bs : List Nat} {k : OB} {M : Nat} (o : OT g bs x t) (b : Bl N M bs) (h : c < N) : OT (g.set c k) bs x t := o.frame fun d hd => by
 have := (b.2 d hd).1
 exact (show hg (g.set c k) d .mk = hg g d .mk by rw [hg_set, show (d == c) = false by simp; omega]; rfl)
theorem Bl.left {N M : Nat} {a b : List Nat} (h : Bl N M (a ++ b)) : Bl N M a := ⟨(List.nodup_append.1 h.1).1, fun x hx => h.2 x (List.mem_append.2 (.inl hx))⟩
theorem Bl.right {N M : Nat} {a b : List Nat} (h : Bl N M (a ++ b)) : Bl N M b := ⟨(List.nodup_append.1 h.1).2.1, fun x hx => h.2 x (List.mem_append.2 (.inr hx))⟩
theorem Bl.disj {N M : Nat} {a b : List Nat} (h : Bl N M (a ++ b)) : ∀ x ∈ a, x ∉ b := fun x hx hy => (List.nodup_append.1 h.1).2.2 x hx x hy rfl
theorem append_grF {g : H2} {K : KT} {t u U z y N n : Nat} {zs : List Value} {v w : X} {ys : List X} {ts us : List T} {bs b2 : List Nat} (he : Go.Ai.elt? P t = some (U, z + 1, y)) (hz : Go.Ai.zr? P U = some zs) (hl : zs.length = z + 1) (hu : Go.Ai.cls? P u = some .sl)
  (hy : y ≤ 1000) (gr : Gr N g v (z + 1) n ts bs) (hs : srcX g (z + 1) w = some (1, ys)) (o : OTs g b2 ys us) (hyl : ys.length = z + 1) (hN : N ≤ hn g .mk) (hlo : ∀ b ∈ b2, N ≤ b ∧ b < hn g .mk) (hnd : b2.Nodup) (hdj : ∀ b ∈ bs, b ∉ b2) (hdv : ∀ b, blockOf v = some b → b ∉ b2) (hn0 : n ≤ 1048576)
  (hk : ∀ g', Gr N g' (.raw (.slice (some ⟨hn g .mk, 0, none⟩) (n + 1) (n + 1))) (z + 1) (n + 1) (ts ++ us) (bs ++ b2) → hn g' .mk = hn g .mk + 1 → (∀ b, b < hn g .mk → blockOf v ≠ some b → hg g' b .mk = hg g b .mk) → kz K (.raw (.slice (some ⟨hn g .mk, 0, none⟩) (n + 1) (n + 1))) g' .mk) :
  az (biz P g .append [t, u] [v, w] .mk) K .mk := by
 obtain ⟨cs, ow, oc, bl, dv⟩ := gr
 have hlen := ow.1
 have hok := OTs.okx o
 refine append_new he hz hl hu ow hs hyl hok ?_ ?_
 ·have : Go.Ai.most = 1099511627776 := rfl
  have : (n + 1) * (y + 1) ≤ 1048577 * 1001 := Nat.mul_le_mul (by omega) (by omega)
  omega
 intro g' h1 h2 h3
 have hlt : ∀ b ∈ bs ++ b2, N ≤ b ∧ b < hn g .mk := fun b hb => (List.mem_append.1 hb).elim (fun h => bl.2 b h) (fun h => hlo b h)
 have hnv : ∀ b ∈ bs ++ b2, blockOf v ≠ some b := fun b hb e => (List.mem_append.1 hb).elim (fun h => dv b e h) (fun h => hdv b e h)
 refine hk g' ⟨cs ++ ys, ⟨by simp [hlen, hyl, Nat.add_mul], .inr ⟨_, rfl, hN, by omega, h1⟩⟩, (oc.append o).frame fun x hx => h3 x (hlt x hx).2 (hnv x hx), ⟨List.nodup_append.2 ⟨bl.1, hnd, fun x hx y hy2 e => hdj x hx (e ▸ hy2)⟩, fun x hx => ⟨(hlt x hx).1, by have := (hlt x hx).2; omega⟩⟩, fun b e hb => ?_⟩ h2 h3
 simp only [blockOf, Option.some.injEq] at e
 have := (hlt b hb).2
 omega
theorem Gr.tree2 {N : Nat} {g : H2} {v : X} {z n : Nat} {es : List (List T)} {bs : List Nat} (gr : Gr N g v z n es.flatten bs) (hn' : n = es.length) (hz : ∀ e ∈ es, e.length = z) : ∃ bs', OT g bs' v (.l z es) ∧ bs'.Nodup ∧ ∀ x ∈ bs', x ∈ bs ∨ blockOf v = some x := by
  subst hn'
  obtain ⟨cs, ⟨hl, ho⟩, t, b, d⟩ := gr
  rcases ho with ⟨rfl, h0⟩ | ⟨q, rfl, h1, h2, h3⟩
  · have : es = [] := List.eq_nil_of_length_eq_zero h0
    subst this
    exact ⟨[], .nil, .nil, fun x hx => by cases hx⟩
  · exact ⟨q :: bs, .row h3 hl rfl hz t, List.nodup_cons.2 ⟨d q rfl, b.1⟩, fun x hx => by
      rcases List.mem_cons.1 hx with rfl | hx
      · exact .inr rfl
      · exact .inl hx⟩
theorem greatA_pw {f : Adr} {n : Int} {l : List Int} {g : H2} (hl : absB 10000000 l) (hn0 : l.length ≤ 1048576) : PW Tryz.prog W0 137 [.raw (.int .i64 n), .sl f 1 (ints l)] g (fun y => y = .raw (.int .i64 (greatI n l))) :=
 WC2.mono (greatA_ok hl hn0) fun y g' ⟨h1, h2⟩ => by subst h2; exact ⟨rfl, Nat.le_refl _, h1⟩
theorem lit_introK {g : H2} {K : KT} {z : Nat} {cs : List X} (hz : cs.length = z)
  (hk : ∀ w g', (∀ g'' : H2, hg g'' (hn g .mk) .mk = hg g' (hn g .mk) .mk → srcX g'' z w = some (1, cs)) → g.le g' → hn g' .mk = hn g .mk + 1 → kz K w g' .mk) : litz 1 z cs (toTs cs) g K .mk := by
 cases ht : toTs cs with
 | none =>
  rw [lit_N]
  refine hk _ _ (fun g'' h => ?_) (le_push (H2.le.refl _)) (by rw [hn_push])
  rw [hg_push, show (hn g .mk == hn g .mk) = true by simp, hk_t] at h
  have h5 : g''.get (hn g .mk) = some ⟨z, cs⟩ := h
  have h6 : g''.get g.n = some ⟨z, cs⟩ := h
  show srcX g'' z (.raw (.slice (some ⟨g.n, 0, none⟩) 1 1)) = some (1, cs)
  simp only [srcX, h6, rd_all (show cs.length = 1 * z by omega), Option.map_some]
 | some ts =>
  rw [lit_S]
  have hl : ts.length = z := by rw [← hz]; exact (toTs_get ht).1
  refine hk _ _ (fun g'' _ => ?_) (le_up (H2.le.refl _) (Nat.le_succ _)) (by rw [hn_up])
  simp only [srcX, if_true]
  have e : chunk z (0 + 1) ts = [ts] := by simp only [chunk, List.take_of_length_le (Nat.le_of_eq hl)]
  rw [e]
  have := lit_flat (b := hn g .mk) (n := 0 + 1) (z := z) (cs := cs) (l := cs) (j := 0) ht fun q x hq => by rw [Nat.zero_add]; exact hq
  simp only [flatX, this, List.append_nil, List.length_cons, List.length_nil]
def TwoG (N : Nat) (g : H2) (k v : X) (n : Nat) (c : LCell) (bs bs' : List Nat) : Prop :=
 Gr N g k 1 n (c.keys.map ePartS).flatten bs ∧ Gr N g v 1 n (c.values.map ePartS).flatten bs' ∧ (∀ b ∈ bs, b ∉ bs') ∧ (∀ b, blockOf k = some b → b ∉ bs' ∧ blockOf v ≠ some b) ∧ ∀ b, blockOf v = some b → b ∉ bs
theorem TwoG.nil {N : Nat} {g : H2} : TwoG N g (.raw (.slice none 0 0)) (.raw (.slice none 0 0)) 0 ⟨[], []⟩ [] [] := by
 refine And.intro Gr.nil (And.intro Gr.nil (And.intro ?_ (And.intro ?_ ?_)))
 ·intro b h; cases h
 ·intro b h; cases h
 ·intro b h; cases h
theorem TwoG.on {N : Nat} {g g' : H2} {k v : X} {n : Nat} {c : LCell} {bs bs' : List Nat} {p : Option Nat} {r s : Int} (t : TwoG N g k v n c bs bs') (l : OnM p g g') (m : Mt p g r s) (hN : ∀ b, p = some b → b < N) : TwoG N g' k v n c bs bs' := ⟨t.1.on l m hN, t.2.1.on l m hN, t.2.2⟩
end Go.Bi
end
section
set_option maxRecDepth 20000
namespace Go.Bi
open Go.Proofs
open Go.Ai (wrap_i64 Heap)
variable {W0 : World} {P : Program}
set_option maxHeartbeats 4000000
theorem mixB_ok {f f' : Adr} {sh : List Int} {vs : List (List Int)} {n : Nat} {g : H2} (hl : vs.length = sh.length) (h1 : 1 ≤ sh.length) (h32 : sh.length ≤ 32) (hs : allI sh 0 256 = true) (hn1 : 1 ≤ n) (hn8 : n ≤ 8) (hv : rowsB n vs) : TI Tryz.prog W0 210 [.sl f 1 (ints sh), .sl f' 1 (rIntSS vs)] g (mixI sh vs n) := by
 refine begins [[0, 1], [0, 1], [0, 1, 6], [0, 1, 6, 7], [0, 1, 6, 7, 8], [0, 1, 6, 7, 8], [0, 1, 6, 8], [0, 1, 6, 7], [6], [0, 1, 6], [0, 1, 6, 9], [0, 1, 6, 9], [0, 1, 6, 9], [0, 1, 6, 9, 10], [0, 1, 6, 9, 10, 11], [0, 1, 6, 9, 10, 11], [0, 1, 6, 9, 10, 11], [0, 1, 6, 9, 10], [6]] Tryz.func210 rfl (rs := [.tmp 4, .tmp 5]) rfl rfl ?_
 intro wf
 have hsa := allI_abs hs (n := 256) (by omega) (by omega)
 have e1 : decide ((vs.length : Int) = (sh.length : Int)) = true := decide_eq_true (by omega)
 have v0 := rows_small hv 0 (by omega)
 have q0 : 0 < vs.length := by omega
 have i0 : (0 : Int) ≤ 0 := by omega
 repeat (first | rw [ko] | rw [kr] | simp -dsimp -implicitDefEqProofs only [go_sem, sQ1, sQ3])
 refine wz_intro l01In_ok ?_
 rintro _ _ ⟨rfl, rfl⟩
 rw [inI_mk (by omega) (by omega)]
 repeat (first | rw [ko] | rw [kr] | simp -dsimp -implicitDefEqProofs only [go_sem, sQ1, e1])
 refine pw_intro (l05All_ok (by omega)) ?_
 rintro _ n1 hn1 rfl
 simp only [hn_push] at hn1
 rw [hs]
 repeat (first | rw [ko] | rw [kr] | simp -dsimp -implicitDefEqProofs only [go_sem, sQ1])
 refine lz_keep [0, 1, 6] (fun m e h' => ∃ (i : Nat), (g.push ⟨1, []⟩).le h' ∧ look e 8 .mk = .raw (.int .i64 (i : Nat)) ∧ look e 7 .mk = .raw (.bool true) ∧ m + i = vs.length) vs.length ?_ ?_
 ·exact ⟨0, le_up (H2.le.refl _) hn1, zsm, zsm, by omega⟩
 rintro m0 e0 h0 hks0 ⟨i, hle0, ei0, et0, hm0⟩
 simp -dsimp -implicitDefEqProofs only [go_sem, sQ1] at hks0
 by_cases q1 : (i : Int) < (vs.length : Int)
 ·have q2 : i < vs.length := by omega
  have w1 := zwrs i (by omega)
  have vi := rows_small hv i q2
  have e2 : decide ((((vs.getD i default).length : Nat) : Int) = ((n : Nat) : Int)) = true := decide_eq_true (by omega)
  repeat (first | rw [ko] | rw [kr] | simp -dsimp -implicitDefEqProofs only [go_sem, sQ1, hks0, ei0, et0, q1])
  refine dq_intro [(0, []), (1, []), (2, []), (3, []), (4, []), (5, []), (6, []), (7, []), (8, []), (9, []), (10, []), (11, []), (12, []), (13, []), (14, []), (15, []), (16, []), (17, [])] (by kernel_rfl) ?_
  repeat (first | rw [ko] | rw [kr] | simp -dsimp -implicitDefEqProofs only [go_sem, sQ1, q2])
  refine pw_intro (vecB_ok vi.2 (by omega) (by omega)) ?_
  rintro _ n2 hn2 rfl
  try (rw [kq]; refine ⟨zsm, ?_⟩)
  repeat (first | rw [ko] | rw [kr] | simp -dsimp -implicitDefEqProofs only [go_sem, sQ1, q2, q0, i0, Int.toNat_zero, vi.1, v0.1, w1, decide_true])
  exact nx_keep (m0 - 1) (by omega) zsm ⟨i + 1, le_up hle0 hn2, zsm, zsm, by omega⟩
 repeat (first | rw [ko] | rw [kr] | simp -dsimp -implicitDefEqProofs only [go_sem, sQ1, hks0, ei0, et0, q1])
 refine lz_keep [0, 1] (fun m e h' => ∃ (k : Nat) (v : X), g.le h' ∧ hn g .mk ≤ hn h' .mk ∧ look e 9 .mk = .raw (.int .i64 (k : Nat)) ∧ look e 6 .mk = v ∧ m + k = n ∧ OwnI (hn g .mk) h' v ((mixI sh vs n).take k)) n ?_ ?_
 ·exact ⟨0, _, (le_push (H2.le.refl _)).trans hle0, ((le_push (H2.le.refl _)).trans hle0).1, zsm, by simp -dsimp -implicitDefEqProofs only [go_sem] <;> rfl, by omega, Own.keep (Own.new (Nat.le_refl _) rfl) hle0⟩
 rintro m e h' hks ⟨k, v, hle, nn, ek, ev, hm, ow⟩
 simp -dsimp -implicitDefEqProofs only [go_sem, sQ1] at hks
 have c0 := ownI_cell ow
 by_cases q1 : (k : Int) < (n : Int)
 rotate_left
 ·repeat (first | rw [ko] | rw [kr] | simp -dsimp -implicitDefEqProofs only [go_sem, sQ1, hks, ek, ev, q1, c0, q0, i0, Int.toNat_zero, v0.1])
  have hi : k = (mixI sh vs n).length := by rw [mixI_len]; omega
  rw [hi, List.take_length] at ow
  exact ⟨hle, v, rfl, ow⟩
 have q2 : k < n := by omega
 repeat (first | rw [ko] | rw [kr] | simp -dsimp -implicitDefEqProofs only [go_sem, sQ1, hks, ek, ev, q1, q0, i0, Int.toNat_zero, v0.1])
 refine lz_keep [0, 1, 6, 9] (fun m2 e2 h2 => ∃ (i : Nat), h2 = h' ∧ look e2 11 .mk = .raw (.int .i64 (i : Nat)) ∧ look e2 10 .mk = .raw (.int .i64 (sumF (fun i => sh.getD i default * (vs.getD i default).getD k default) i)) ∧ m2 + i = sh.length) sh.length ?_ ?_
 ·exact ⟨0, rfl, zsm, by simp -dsimp -implicitDefEqProofs only [go_sem] <;> rfl, by omega⟩
 rintro m2 e2 h2 hks2 ⟨i, rfl, ei, es, hm2⟩
 simp -dsimp -implicitDefEqProofs only [go_sem, sQ1] at hks2
 by_cases p1 : (i : Int) < (vs.length : Int)
 ·have p2 : i < sh.length := by omega
  have p3 : i < vs.length := by omega
  have vi := rows_small hv i p3
  have p4 : k < (vs.getD i default).length := by omega
  have w1 := zwrs i (by omega)
  have a := mix_at hsa vi.2 i k
  have b := mix_to hsa (fun v hv2 => (hv v hv2).2) k (i + 1)
  have w3 := wrapS (x := sh.getD i default * (vs.getD i default).getD k default) (by omega)
  have w2 : IntKind.i64.wrap (sumF (fun i => sh.getD i default * (vs.getD i default).getD k default) i + sh.getD i default * (vs.getD i default).getD k default) = sumF (fun i => sh.getD i default * (vs.getD i default).getD k default) (i + 1) := wrapS (x := sumF (fun i => sh.getD i default * (vs.getD i default).getD k default) (i + 1)) (by omega)
  repeat (first | rw [ko] | rw [kr] | simp -dsimp -implicitDefEqProofs only [go_sem, sQ1, hks2, ei, es, p1])
  refine dq_intro [(0, []), (1, []), (2, []), (3, []), (4, []), (5, []), (6, []), (7, []), (8, []), (9, []), (10, []), (11, []), (12, []), (13, []), (14, [])] (by kernel_rfl) ?_
  repeat (first | rw [ko] | rw [kr] | simp -dsimp -implicitDefEqProofs only [go_sem, sQ1, p2, p3, p4, w1, w3, w2])
  exact nx_keep (m2 - 1) (by omega) zsm ⟨i + 1, rfl, zsm, zsm, by omega⟩
 repeat (first | rw [ko] | rw [kr] | simp -dsimp -implicitDefEqProofs only [go_sem, sQ1, hks2, ei, es, p1])
 obtain rfl : i = sh.length := by omega
 have w1 := zwrs k (by omega)
 refine wz_intro (floorB_ok (by omega) (by have := mix_to hsa (fun v hv2 => (hv v hv2).2) k sh.length; omega)) ?_
 rintro _ _ ⟨rfl, rfl⟩
 repeat (first | rw [ko] | rw [kr] | simp -dsimp -implicitDefEqProofs only [go_sem])
 refine wz_intro (clamp2_ok (by omega) (by omega)) ?_
 rintro _ _ ⟨rfl, rfl⟩
 repeat (first | rw [ko] | rw [kr] | simp -dsimp -implicitDefEqProofs only [go_sem, sQ3])
 refine app1 (P := Tryz.prog) (D := fun _ => none) Go.Ai.ty_el25 Go.Ai.ty_zr3 Go.Ai.ty_cl25 (by omega) ow hle (by omega) nn (by rw [List.length_take, mixI_len]; omega) ?_
 intro v4 g4 ow4 le4 nn4 on4
 repeat (first | rw [ko] | rw [kr] | simp -dsimp -implicitDefEqProofs only [go_sem, sQ1, w1])
 exact nx_keep (m - 1) (by omega) zsm ⟨k + 1, v4, le4, nn4, zsm, zsm, by omega, (mapR_snoc q2).symm ▸ ow4⟩
theorem attendB_ok {f f2 f3 : Adr} {q : List Int} {ks vs : List (List Int)} {g : H2} (hq : absB 127 q) (h1 : 1 ≤ q.length) (h8 : q.length ≤ 8) (hk : rowsB q.length ks) (hv : rowsB q.length vs) (hl : vs.length = ks.length) (hk1 : 1 ≤ ks.length) (hk32 : ks.length ≤ 32) : TI Tryz.prog W0 162 [.sl f 1 (ints q), .sl f2 1 (rIntSS ks), .sl f3 1 (rIntSS vs)] g (attendI q ks vs) := by
 have sl : (ks.map (scoreI q)).length = ks.length := List.length_map _
 have sa : absB 100000 (ks.map (scoreI q)) := fun y hy => by
  obtain ⟨k, hk0, rfl⟩ := List.mem_map.1 hy
  have := score_abs hq (hk k hk0).2 h8
  omega
 refine begins [[0, 1, 2], [0, 1, 2], [0, 1, 2, 8], [0, 1, 2, 8, 9], [0, 1, 2, 8, 9], [0, 1, 2, 8, 9], [0, 1, 2, 8, 9, 10, 11], [], [0, 1, 2, 8, 9, 10], [1, 2, 8], [1, 2, 8, 12, 13], [], [2, 12]] Tryz.func162 rfl (rs := [.tmp 6, .tmp 7]) rfl rfl ?_
 intro wf
 have k32 : (ks.length : Int) ≤ 32 := by omega
 repeat (first | rw [ko] | rw [kr] | simp -dsimp -implicitDefEqProofs only [go_sem, sQ1, sQ3])
 refine lz_keep [0, 1, 2] (fun m e h' => ∃ (i : Nat) (v : X), g.le h' ∧ hn g .mk ≤ hn h' .mk ∧ look e 9 .mk = .raw (.int .i64 (i : Nat)) ∧ look e 8 .mk = v ∧ m + i = ks.length ∧ OwnI (hn g .mk) h' v ((ks.map (scoreI q)).take i)) ks.length ?_ ?_
 ·exact ⟨0, _, le_push (H2.le.refl _), by simp only [hn_push]; omega, zsm, by simp -dsimp -implicitDefEqProofs only [go_sem] <;> rfl, by omega, Own.new (Nat.le_refl _) rfl⟩
 rintro m e h' hks ⟨i, v, hle, nn, ei, ev, hm, ow⟩
 simp -dsimp -implicitDefEqProofs only [go_sem, sQ1] at hks
 have c0 := ownI_cell ow
 by_cases q1 : (i : Int) < (ks.length : Int)
 ·have q2 : i < ks.length := by omega
  have w1 := zwrs i (by omega)
  have hki := hk _ (getD_mem q2)
  repeat (first | rw [ko] | rw [kr] | simp -dsimp -implicitDefEqProofs only [go_sem, sQ1, hks, ei, ev, q1, q2, k32])
  refine pw_intro (scoreB_ok hq hki.2 h1 h8 hki.1) ?_
  rintro _ n1 hn1 rfl
  repeat (first | rw [ko] | rw [kr] | simp -dsimp -implicitDefEqProofs only [go_sem, sQ1, sQ3])
  refine app1 (P := Tryz.prog) (D := fun _ => none) Go.Ai.ty_el25 Go.Ai.ty_zr3 Go.Ai.ty_cl25 (by omega) (Own.keep ow (le_up (H2.le.refl _) hn1)) (le_up hle hn1) (by omega) (by rw [hn_up]; omega) (by rw [List.length_take]; omega) ?_
  intro v4 g4 ow4 le4 nn4 on4
  repeat (first | rw [ko] | rw [kr] | simp -dsimp -implicitDefEqProofs only [go_sem, sQ1, w1])
  exact nx_keep (m - 1) (by omega) zsm ⟨i + 1, v4, le4, nn4, zsm, zsm, by omega, (mapL_snoc q2).symm ▸ ow4⟩
 have hi : i = (ks.map (scoreI q)).length := by omega
 rw [hi, List.take_length] at ow
 obtain ⟨b, rfl, hb1, hb2, hb3⟩ := ownI_inv ow (by omega)
 obtain ⟨fz, hfz⟩ := ow.lent
 rw [sl] at ev
 rw [sl] at hfz
 have e3 : decide (¬ ((ks.length : Int) = (ks.length : Int))) = false := decide_eq_false (fun h => h rfl)
 repeat (first | rw [ko] | rw [kr] | simp -dsimp -implicitDefEqProofs only [go_sem, sQ1, hks, ei, ev, q1])
 refine pw_intro (PW.lend (.cons hfz .nil) (TI.pw (sharesB_ok (l := ks.map (scoreI q)) (by omega) (by omega) sa)) (fun y hy => hy.2)) ?_
 rintro _ n2 hn2 ⟨⟨f5, rfl⟩, _⟩
 repeat (first | rw [ko] | rw [kr] | simp -dsimp -implicitDefEqProofs only [go_sem, sQ1])
 refine wz_intro (mixB_ok (sh := sharesI (ks.map (scoreI q))) (n := q.length) (by rw [sharesI_len]; omega) (by rw [sharesI_len]; omega) (by rw [sharesI_len]; omega) shares_all h1 h8 hv) ?_
 rintro _ g3 ⟨l3, v, rfl, ow3⟩
 have c3 := ownI_cell ow3
 simp only [hn_up] at ow3
 repeat (first | rw [ko] | rw [kr] | simp -dsimp -implicitDefEqProofs only [go_sem, sQ1, c3])
 exact ⟨(le_up hle hn2).trans l3, v, rfl, ow3.wide (by omega)⟩
end Go.Bi
end
