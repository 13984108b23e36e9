/- Own lemmas that the theorem of this claim needs: the abstract machine and walks of functions. -/
import Derived.Test.YtegpkkefbmcddaaGreatQiLawAP
set_option linter.unusedSimpArgs false
set_option linter.unusedVariables false
open Nat renaming reduceBEq → sQ1, reduceAdd → sQ2, reduceLeDiff → sQ3, reduceMul → sQ4
open Int renaming reduceLE → sQ5, reduceLT → sQ6, reduceBEq → sQ7
section
set_option maxRecDepth 20000
namespace Go.Bi
open Go.Proofs
open Go.Ai (wrap_i64)
variable {W0 : World} {P : Program}
set_option maxHeartbeats 4000000
def HePart (W0 : World) (e : LPart) (a b : Int) : Prop := ∃ (k1 : Int), e.shift = a ∧ (HhIntS W0 e.values (a + 1) k1 ∧ a + 1 ≤ k1) ∧ b = k1 ∧ 0 ≤ a ∧ b ≤ 4611686018427387904
def HhPartS (W0 : World) (c : List LPart) (a b : Int) : Prop := ∀ f g, PW Tryz.prog W0 142 [.sl f 2 (rPartS c), .raw (.int .i64 a)] g (fun y => y = .raw (.int .i64 b))
theorem heldPartS_ch {c : List LPart} {k0 k1 : Int} (h : Ch (HePart W0) k0 c k1) (hl : c.length ≤ 4611686018427387904) : HhPartS W0 c k0 k1 := by
 intro f g
 refine PW.scalar ?_
 refine begins [[0, 1], [0, 1], [0, 1, 5], [0, 1, 5], [0, 1, 5], [], [0, 1, 5], [0, 1, 5], [0, 1, 5], [], [1]] Tryz.func142 rfl (rs := [.tmp 4]) rfl rfl ?_
 intro wf
 repeat (first | rw [ko] | rw [kr] | simp -dsimp -implicitDefEqProofs only [go_sem])
 refine lz_keep [0] (fun m e h' => ∃ (i : Nat) (a : Int), g.le h' ∧ look e 5 .mk = .raw (.int .i64 (i : Nat)) ∧ look e 1 .mk = .raw (.int .i64 a) ∧ m + i = c.length ∧ Ch (HePart W0) a (c.drop i) k1) c.length ?_ ?_
 ·exact ⟨0, k0, H2.le.refl _, zsm, zsm, by omega, h⟩
 rintro m e h' hks ⟨i, a, hle, e5, e1, hm, hc⟩
 simp -dsimp -implicitDefEqProofs only [go_sem, sQ1] at hks
 by_cases q1 : (i : Int) < (c.length : Int)
 ·have q2 : i < c.length := by omega
  obtain ⟨b, hb, h0, hc'⟩ := hc.step q2
  obtain ⟨k1, f0, ⟨f1, l1⟩, hbe, ha0, hbt⟩ := hb
  have w1 := wrap_succ q2 (by omega)
  have d0 : decide (¬ (c.getD i default).shift = a) = false := decide_eq_false (fun h => h f0)
  have v0 : IntKind.i64.wrap (a + 1) = a + 1 := by rw [wrap_i64] <;> omega
  have q_1 : ¬ k1 < 0 := by omega
  repeat (first | rw [ko] | rw [kr] | simp -dsimp -implicitDefEqProofs only [go_sem, sQ1, sQ2, sQ3, hks, e5, e1, q1, q2, d0, v0])
  refine pw_intro (f1 _ _) ?_
  rintro _ n1 hn1 rfl
  try simp only [hn_up] at hn1
  repeat (first | rw [ko] | rw [kr] | simp -dsimp -implicitDefEqProofs only [go_sem, sQ1, w1, q_1])
  exact nx_keep (m - 1) (by omega) zsm ⟨i + 1, b, (le_up hle (by first | exact hn1 | (simp only [hn_up]; exact hn1))), zsm, by simp -dsimp -implicitDefEqProofs only [go_sem, sQ1, hbe], by omega, hc'⟩
 ·repeat (first | rw [ko] | rw [kr] | simp -dsimp -implicitDefEqProofs only [go_sem, sQ1, hks, e5, e1, q1])
  exact ⟨hle, ⟨_, rfl⟩, by rw [hc.done (by omega)]⟩
theorem markPartS_tree {N : Nat} {bs : List Nat} {v : X} {zs : List LPart} {h : H2} {k0 : Int} (o : OT h bs v (.l 2 (rPartS zs))) (bl : Bl N (hn h .mk) bs) (hk : 0 ≤ k0 ∧ k0 + 64 * szPartS zs ≤ 4611686018427387904) :
  WC2 Tryz.prog W0 141 [v, .raw (.int .i64 k0)] h (fun r h' => ∃ (k1 : Int) (c' : List LPart), r = .raw (.int .i64 k1) ∧ k0 ≤ k1 ∧ k1 ≤ k0 + 64 * szPartS zs ∧ OT h' bs v (.l 2 (rPartS c')) ∧ HhPartS W0 c' k0 k1 ∧ hn h .mk ≤ hn h' .mk ∧ ∀ b, b < hn h .mk → b ∉ bs → h'.get b = h.get b) := by
 have hE : ∀ a, (ePart a).length = 2 := fun a => rfl
 have hsz : (zs.length : Int) ≤ szPartS zs := by unfold szPartS; omega
 rcases o.inv with ⟨rfl, rfl, he⟩ | ⟨b, bs', cs, rfl, rfl, hb, hcs, hz, oc⟩
 ·have hzs : zs = [] := by cases zs <;> simp_all [rPartS]
  subst hzs
  refine begins [[0, 1], [0, 1], [0, 1, 5], [0, 1, 5], [0, 1, 5], [0, 1, 5], [0, 1, 5], [1]] Tryz.func141 rfl (rs := [.tmp 4]) rfl rfl ?_
  intro wf
  repeat (first | rw [ko] | rw [kr] | simp -dsimp -implicitDefEqProofs only [go_sem])
  refine lz_keep [0] (fun m e h' => h' = h ∧ look e 5 .mk = .raw (.int .i64 0) ∧ look e 1 .mk = .raw (.int .i64 k0)) 0 ?_ ?_
  ·exact ⟨rfl, zsm, zsm⟩
  rintro m e h' hks ⟨rfl, e5, e1⟩
  simp -dsimp -implicitDefEqProofs only [go_sem, sQ1] at hks
  have q1 : ¬ ((0 : Int) < ((0 : Nat) : Int)) := by decide
  repeat (first | rw [ko] | rw [kr] | simp -dsimp -implicitDefEqProofs only [go_sem, sQ1, sQ6, hks, e5, e1])
  exact ⟨k0, [], rfl, by omega, by omega, o, heldPartS_ch .nil (by decide), Nat.le_refl _, fun _ _ _ => rfl⟩
 ·have hlen : (rPartS zs).length = zs.length := rPartS_len
  rw [hlen]
  refine begins [[0, 1], [0, 1], [0, 1, 5], [0, 1, 5], [0, 1, 5], [0, 1, 5], [0, 1, 5], [1]] Tryz.func141 rfl (rs := [.tmp 4]) rfl rfl ?_
  intro wf
  repeat (first | rw [ko] | rw [kr] | simp -dsimp -implicitDefEqProofs only [go_sem])
  refine lz_keep [0] (fun m e h' => ∃ (i : Nat) (a : Int) (c' : List LPart), look e 5 .mk = .raw (.int .i64 (i : Nat)) ∧ look e 1 .mk = .raw (.int .i64 a) ∧ m + i = zs.length ∧ c'.length = i ∧ CurA h b 2 bs' h' (i * 2) ((c'.map ePart).flatten) (((zs.drop i).map ePart).flatten) ∧ Ch (HePart W0) k0 c' a ∧ k0 ≤ a ∧ a ≤ k0 + 64 * (i + sumN szPart (zs.take i))) zs.length ?_ ?_
  ·exact ⟨0, k0, [], zsm, zsm, by omega, rfl, (CurA.start hb oc bl).cast (by omega) rfl rfl, .nil, by omega, by omega⟩
  rintro m e h' hks ⟨i, a, c', e5, e1, hm, hcl, cur0, ch, lo, hi⟩
  simp -dsimp -implicitDefEqProofs only [go_sem, sQ1] at hks
  by_cases q1 : (i : Int) < (zs.length : Int)
  ·have q2 : i < zs.length := by omega
   have hd : zs.drop i = zs.getD i default :: zs.drop (i + 1) := by rw [List.drop_eq_getElem_cons q2, List.getD_eq_getElem?_getD, List.getElem?_eq_getElem q2]; rfl
   have hst : sumN szPart (zs.take (i + 1)) = sumN szPart (zs.take i) + szPart (zs.getD i default) := sumN_take (f := szPart) q2
   have hle : sumN szPart (zs.take (i + 1)) ≤ sumN szPart zs := by
    have := sumN_append (f := szPart) (l := zs.take (i + 1)) (m := zs.drop (i + 1))
    rw [List.take_append_drop] at this
    omega
   have hsz2 : szPartS zs = zs.length + sumN szPart zs := rfl
   have hszE : szPart (zs.getD i default) = (zs.getD i default).values.length := rfl
   have w1 := wrap_succ q2 (by omega)
   have hi2 : (0 : Int) ≤ (i : Int) ∧ (i : Int) < (zs.length : Int) := by omega
   replace cur0 := cur0.cast (TB' := [.v (.int .i64 (zs.getD i default).shift), .l 1 (ints (zs.getD i default).values)] ++ ((zs.drop (i + 1)).map ePart).flatten) rfl rfl (by rw [hd]; rfl)
   simp only [List.cons_append, List.nil_append] at cur0
   obtain ⟨cs0, hblk0, hlt0, ⟨_, hget0⟩, hput0⟩ := cur0.put
   obtain ⟨cw0, hw0, cur1⟩ := hput0 (.int .i64 (a)) rfl
   try simp only [set_set] at cur1
   have v0 : IntKind.i64.wrap (a + 1) = a + 1 := by rw [wrap_i64] <;> omega
   obtain ⟨cs1, y1, bb1, hblk1, hlt1, hget1, oy1, bly1, fin1⟩ := cur1.row
   have hy1 := OT.cell oy1
   have es1 := set_same hblk1
   subst es1
   repeat (first | rw [ko] | rw [kr] | simp -dsimp -implicitDefEqProofs only [go_sem, sQ1, hks, e5, e1, q1, hi2, Int.toNat_natCast, hoo, hblk0, hw0, v0, hblk1, hget1])
   refine wz_intro (markIntS_tree oy1 bly1 ⟨by omega, by omega⟩) ?_
   rintro _ g1 ⟨k1, x1, rfl, lo1, hi1, o1, hh1, nn1, fr1⟩
   have cur2 := fin1 g1 _ o1 nn1 fr1
   repeat (first | rw [ko] | rw [kr] | simp -dsimp -implicitDefEqProofs only [go_sem, sQ1, hoo, w1])
   refine nx_keep (m - 1) (by omega) zsm ⟨i + 1, k1, c' ++ [(⟨a, x1⟩ : LPart)], zsm, zsm, by omega, by simp [hcl], cur2.cast (by omega) (by simp [ePart, List.append_assoc]) rfl, ch.snoc ⟨k1, rfl, ⟨hh1, lo1⟩, rfl, by omega, by omega⟩ (by omega), by omega, by omega⟩
  ·repeat (first | rw [ko] | rw [kr] | simp -dsimp -implicitDefEqProofs only [go_sem, sQ1, hks, e5, e1, q1])
   have hi3 : i = zs.length := by omega
   rw [hi3] at cur0 hi
   rw [List.take_length] at hi
   rw [List.drop_length] at cur0
   have hcl2 : (rPartS c').length = zs.length := by rw [rPartS_len, hcl, hi3]
   obtain ⟨f1, f2, f3⟩ := CurA.full (es := rPartS c') cur0 (by rw [hcl2]) (fun e he => by
    obtain ⟨x, _, rfl⟩ := List.mem_map.1 he
    exact hE x)
   rw [hcl2] at f1
   exact ⟨a, c', rfl, lo, hi, f1, heldPartS_ch ch (by rw [hcl]; omega), f2, f3⟩
def HhPartSS (W0 : World) (c : List (List LPart)) (a b : Int) : Prop := ∀ f g, PW Tryz.prog W0 77 [.sl f 1 (rPartSS c), .raw (.int .i64 a)] g (fun y => y = .raw (.int .i64 b))
theorem heldPartSS_ch {c : List (List LPart)} {k0 k1 : Int} (h : Ch (HhPartS W0) k0 c k1) (hl : c.length ≤ 4611686018427387904) : HhPartSS W0 c k0 k1 := by
 intro f g
 refine PW.scalar ?_
 refine begins [[0, 1], [0, 1], [0, 1, 5], [0, 1, 5], [0, 1, 5], [0, 1, 5], [], [1]] Tryz.func77 rfl (rs := [.tmp 4]) rfl rfl ?_
 intro wf
 repeat (first | rw [ko] | rw [kr] | simp -dsimp -implicitDefEqProofs only [go_sem])
 refine lz_keep [0] (fun m e h' => ∃ (i : Nat) (a : Int), g.le h' ∧ look e 5 .mk = .raw (.int .i64 (i : Nat)) ∧ look e 1 .mk = .raw (.int .i64 a) ∧ m + i = c.length ∧ Ch (HhPartS W0) a (c.drop i) k1) c.length ?_ ?_
 ·exact ⟨0, k0, H2.le.refl _, zsm, zsm, by omega, h⟩
 rintro m e h' hks ⟨i, a, hle, e5, e1, hm, hc⟩
 simp -dsimp -implicitDefEqProofs only [go_sem, sQ1] at hks
 by_cases q1 : (i : Int) < (c.length : Int)
 ·have q2 : i < c.length := by omega
  obtain ⟨b, hb, h0, hc'⟩ := hc.step q2
  have w1 := wrap_succ q2 (by omega)
  have q3 : ¬ b < 0 := by omega
  repeat (first | rw [ko] | rw [kr] | simp -dsimp -implicitDefEqProofs only [go_sem, sQ1, hks, e5, e1, q1, q2])
  refine pw_intro (hb _ _) ?_
  rintro _ n hn1 rfl
  repeat (first | rw [ko] | rw [kr] | simp -dsimp -implicitDefEqProofs only [go_sem, sQ1, q3, w1])
  exact nx_keep (m - 1) (by omega) zsm ⟨i + 1, b, le_up hle hn1, zsm, zsm, by omega, hc'⟩
 ·repeat (first | rw [ko] | rw [kr] | simp -dsimp -implicitDefEqProofs only [go_sem, sQ1, hks, e5, e1, q1])
  exact ⟨hle, ⟨_, rfl⟩, by rw [hc.done (by omega)]⟩
theorem markPartSS_tree {N : Nat} {bs : List Nat} {v : X} {zs : List (List LPart)} {h : H2} {k0 : Int} (o : OT h bs v (.l 1 (rPartSS zs))) (bl : Bl N (hn h .mk) bs) (hk : 0 ≤ k0 ∧ k0 + 64 * szPartSS zs ≤ 4611686018427387904) :
  WC2 Tryz.prog W0 76 [v, .raw (.int .i64 k0)] h (fun r h' => ∃ (k1 : Int) (c' : List (List LPart)), r = .raw (.int .i64 k1) ∧ k0 ≤ k1 ∧ k1 ≤ k0 + 64 * szPartSS zs ∧ OT h' bs v (.l 1 (rPartSS c')) ∧ HhPartSS W0 c' k0 k1 ∧ hn h .mk ≤ hn h' .mk ∧ ∀ b, b < hn h .mk → b ∉ bs → h'.get b = h.get b) := by
 have hE : ∀ a, (ePartS a).length = 1 := fun a => rfl
 have hsz : (zs.length : Int) ≤ szPartSS zs := by unfold szPartSS; omega
 rcases o.inv with ⟨rfl, rfl, he⟩ | ⟨b, bs', cs, rfl, rfl, hb, hcs, hz, oc⟩
 ·have hzs : zs = [] := by cases zs <;> simp_all [rPartSS]
  subst hzs
  refine begins [[0, 1], [0, 1], [0, 1, 5], [0, 1, 5], [0, 1, 5], [1]] Tryz.func76 rfl (rs := [.tmp 4]) rfl rfl ?_
  intro wf
  repeat (first | rw [ko] | rw [kr] | simp -dsimp -implicitDefEqProofs only [go_sem])
  refine lz_keep [0] (fun m e h' => h' = h ∧ look e 5 .mk = .raw (.int .i64 0) ∧ look e 1 .mk = .raw (.int .i64 k0)) 0 ?_ ?_
  ·exact ⟨rfl, zsm, zsm⟩
  rintro m e h' hks ⟨rfl, e5, e1⟩
  simp -dsimp -implicitDefEqProofs only [go_sem, sQ1] at hks
  have q1 : ¬ ((0 : Int) < ((0 : Nat) : Int)) := by decide
  repeat (first | rw [ko] | rw [kr] | simp -dsimp -implicitDefEqProofs only [go_sem, sQ1, sQ6, hks, e5, e1])
  exact ⟨k0, [], rfl, by omega, by omega, o, heldPartSS_ch .nil (by decide), Nat.le_refl _, fun _ _ _ => rfl⟩
 ·have hlen : (rPartSS zs).length = zs.length := rPartSS_len
  rw [hlen]
  refine begins [[0, 1], [0, 1], [0, 1, 5], [0, 1, 5], [0, 1, 5], [1]] Tryz.func76 rfl (rs := [.tmp 4]) rfl rfl ?_
  intro wf
  repeat (first | rw [ko] | rw [kr] | simp -dsimp -implicitDefEqProofs only [go_sem])
  refine lz_keep [0] (fun m e h' => ∃ (i : Nat) (a : Int) (c' : List (List LPart)), look e 5 .mk = .raw (.int .i64 (i : Nat)) ∧ look e 1 .mk = .raw (.int .i64 a) ∧ m + i = zs.length ∧ c'.length = i ∧ CurA h b 1 bs' h' i ((c'.map ePartS).flatten) (((zs.drop i).map ePartS).flatten) ∧ Ch (HhPartS W0) k0 c' a ∧ k0 ≤ a ∧ a ≤ k0 + 64 * (i + sumN szPartS (zs.take i))) zs.length ?_ ?_
  ·exact ⟨0, k0, [], zsm, zsm, by omega, rfl, CurA.start hb oc bl, .nil, by omega, by omega⟩
  rintro m e h' hks ⟨i, a, c', e5, e1, hm, hcl, cur, ch, lo, hi⟩
  simp -dsimp -implicitDefEqProofs only [go_sem, sQ1] at hks
  by_cases q1 : (i : Int) < (zs.length : Int)
  ·have q2 : i < zs.length := by omega
   have hd : zs.drop i = zs.getD i default :: zs.drop (i + 1) := by rw [List.drop_eq_getElem_cons q2, List.getD_eq_getElem?_getD, List.getElem?_eq_getElem q2]; rfl
   have hst : sumN szPartS (zs.take (i + 1)) = sumN szPartS (zs.take i) + szPartS ((zs.getD i default)) := sumN_take (f := szPartS) q2
   have hle : sumN szPartS (zs.take (i + 1)) ≤ sumN szPartS zs := by
    have := sumN_append (f := szPartS) (l := zs.take (i + 1)) (m := zs.drop (i + 1))
    rw [List.take_append_drop] at this
    omega
   have hsz2 : szPartSS zs = zs.length + sumN szPartS zs := rfl
   have w1 := wrap_succ q2 (by omega)
   obtain ⟨cs2, y, bb, hblk, hblt, hget, oy, bly, fin⟩ := (cur.cast (TB' := .l 2 (rPartS (zs.getD i default)) :: ((zs.drop (i + 1)).map ePartS).flatten) rfl rfl (by rw [hd]; rfl)).row
   have hy := OT.cell oy
   have hi2 : (0 : Int) ≤ (i : Int) ∧ (i : Int) < (zs.length : Int) := by omega
   repeat (first | rw [ko] | rw [kr] | simp -dsimp -implicitDefEqProofs only [go_sem, sQ1, hks, e5, e1, q1, hi2, hblk, hget, Int.toNat_natCast])
   refine wz_intro (markPartS_tree oy bly ⟨by omega, by omega⟩) ?_
   rintro _ g' ⟨a', z', rfl, lo', hi', o', hh, nn, fr⟩
   have cur' := fin g' _ o' nn fr
   repeat (first | rw [ko] | rw [kr] | simp -dsimp -implicitDefEqProofs only [go_sem, sQ1, w1])
   refine nx_keep (m - 1) (by omega) zsm ⟨i + 1, a', c' ++ [z'], zsm, zsm, by omega, by simp [hcl], cur'.cast rfl (by simp [ePartS]) rfl, ch.snoc hh (by omega), by omega, by omega⟩
  ·repeat (first | rw [ko] | rw [kr] | simp -dsimp -implicitDefEqProofs only [go_sem, sQ1, hks, e5, e1, q1])
   have hi3 : i = zs.length := by omega
   rw [hi3] at cur hi
   rw [List.take_length] at hi
   rw [List.drop_length] at cur
   have hcl2 : (rPartSS c').length = zs.length := by rw [rPartSS_len, hcl, hi3]
   obtain ⟨f1, f2, f3⟩ := CurA.full (es := rPartSS c') cur (by rw [hcl2]; omega) (fun e he => by
    obtain ⟨x, _, rfl⟩ := List.mem_map.1 he
    exact hE x)
   rw [hcl2] at f1
   exact ⟨a, c', rfl, lo, hi, f1, heldPartSS_ch ch (by rw [hcl]; omega), f2, f3⟩
def HeCell (W0 : World) (e : LCell) (a b : Int) : Prop := ∃ (k0 k1 : Int), (HhPartSS W0 e.keys (a) k0 ∧ a ≤ k0) ∧ (HhPartSS W0 e.values (k0) k1 ∧ k0 ≤ k1) ∧ b = k1 ∧ 0 ≤ a ∧ b ≤ 4611686018427387904
def HhCellS (W0 : World) (c : List LCell) (a b : Int) : Prop := ∀ f g, PW Tryz.prog W0 28 [.sl f 2 (rCellS c), .raw (.int .i64 a)] g (fun y => y = .raw (.int .i64 b))
theorem heldCellS_ch {c : List LCell} {k0 k1 : Int} (h : Ch (HeCell W0) k0 c k1) (hl : c.length ≤ 4611686018427387904) : HhCellS W0 c k0 k1 := by
 intro f g
 refine PW.scalar ?_
 refine begins [[0, 1], [0, 1], [0, 1, 5], [0, 1, 5], [0, 1, 5], [0, 1, 5], [], [0, 1, 5], [0, 1, 5], [], [1]] Tryz.func28 rfl (rs := [.tmp 4]) rfl rfl ?_
 intro wf
 repeat (first | rw [ko] | rw [kr] | simp -dsimp -implicitDefEqProofs only [go_sem])
 refine lz_keep [0] (fun m e h' => ∃ (i : Nat) (a : Int), g.le h' ∧ look e 5 .mk = .raw (.int .i64 (i : Nat)) ∧ look e 1 .mk = .raw (.int .i64 a) ∧ m + i = c.length ∧ Ch (HeCell W0) a (c.drop i) k1) c.length ?_ ?_
 ·exact ⟨0, k0, H2.le.refl _, zsm, zsm, by omega, h⟩
 rintro m e h' hks ⟨i, a, hle, e5, e1, hm, hc⟩
 simp -dsimp -implicitDefEqProofs only [go_sem, sQ1] at hks
 by_cases q1 : (i : Int) < (c.length : Int)
 ·have q2 : i < c.length := by omega
  obtain ⟨b, hb, h0, hc'⟩ := hc.step q2
  obtain ⟨k0, k1, ⟨f0, l0⟩, ⟨f1, l1⟩, hbe, ha0, hbt⟩ := hb
  have w1 := wrap_succ q2 (by omega)
  have q_0 : ¬ k0 < 0 := by omega
  have q_1 : ¬ k1 < 0 := by omega
  repeat (first | rw [ko] | rw [kr] | simp -dsimp -implicitDefEqProofs only [go_sem, sQ1, sQ2, sQ3, hks, e5, e1, q1, q2])
  refine pw_intro (f0 _ _) ?_
  rintro _ n0 hn0 rfl
  try simp only [hn_up] at hn0
  repeat (first | rw [ko] | rw [kr] | simp -dsimp -implicitDefEqProofs only [go_sem, sQ1, sQ2, sQ3, q2, q_0])
  refine pw_intro (f1 _ _) ?_
  rintro _ n1 hn1 rfl
  try simp only [hn_up] at hn1
  repeat (first | rw [ko] | rw [kr] | simp -dsimp -implicitDefEqProofs only [go_sem, sQ1, w1, q_1])
  exact nx_keep (m - 1) (by omega) zsm ⟨i + 1, b, (le_up (le_up hle (by first | exact hn0 | (simp only [hn_up]; exact hn0))) (by first | exact hn1 | (simp only [hn_up]; exact hn1))), zsm, by simp -dsimp -implicitDefEqProofs only [go_sem, sQ1, hbe], by omega, hc'⟩
 ·repeat (first | rw [ko] | rw [kr] | simp -dsimp -implicitDefEqProofs only [go_sem, sQ1, hks, e5, e1, q1])
  exact ⟨hle, ⟨_, rfl⟩, by rw [hc.done (by omega)]⟩
theorem markCellS_tree {N : Nat} {bs : List Nat} {v : X} {zs : List LCell} {h : H2} {k0 : Int} (o : OT h bs v (.l 2 (rCellS zs))) (bl : Bl N (hn h .mk) bs) (hk : 0 ≤ k0 ∧ k0 + 64 * szCellS zs ≤ 4611686018427387904) :
  WC2 Tryz.prog W0 20 [v, .raw (.int .i64 k0)] h (fun r h' => ∃ (k1 : Int) (c' : List LCell), r = .raw (.int .i64 k1) ∧ k0 ≤ k1 ∧ k1 ≤ k0 + 64 * szCellS zs ∧ OT h' bs v (.l 2 (rCellS c')) ∧ HhCellS W0 c' k0 k1 ∧ hn h .mk ≤ hn h' .mk ∧ ∀ b, b < hn h .mk → b ∉ bs → h'.get b = h.get b) := by
 have hE : ∀ a, (eCell a).length = 2 := fun a => rfl
 have hsz : (zs.length : Int) ≤ szCellS zs := by unfold szCellS; omega
 rcases o.inv with ⟨rfl, rfl, he⟩ | ⟨b, bs', cs, rfl, rfl, hb, hcs, hz, oc⟩
 ·have hzs : zs = [] := by cases zs <;> simp_all [rCellS]
  subst hzs
  refine begins [[0, 1], [0, 1], [0, 1, 5], [0, 1, 5], [0, 1, 5], [0, 1, 5], [1]] Tryz.func20 rfl (rs := [.tmp 4]) rfl rfl ?_
  intro wf
  repeat (first | rw [ko] | rw [kr] | simp -dsimp -implicitDefEqProofs only [go_sem])
  refine lz_keep [0] (fun m e h' => h' = h ∧ look e 5 .mk = .raw (.int .i64 0) ∧ look e 1 .mk = .raw (.int .i64 k0)) 0 ?_ ?_
  ·exact ⟨rfl, zsm, zsm⟩
  rintro m e h' hks ⟨rfl, e5, e1⟩
  simp -dsimp -implicitDefEqProofs only [go_sem, sQ1] at hks
  have q1 : ¬ ((0 : Int) < ((0 : Nat) : Int)) := by decide
  repeat (first | rw [ko] | rw [kr] | simp -dsimp -implicitDefEqProofs only [go_sem, sQ1, sQ6, hks, e5, e1])
  exact ⟨k0, [], rfl, by omega, by omega, o, heldCellS_ch .nil (by decide), Nat.le_refl _, fun _ _ _ => rfl⟩
 ·have hlen : (rCellS zs).length = zs.length := rCellS_len
  rw [hlen]
  refine begins [[0, 1], [0, 1], [0, 1, 5], [0, 1, 5], [0, 1, 5], [0, 1, 5], [1]] Tryz.func20 rfl (rs := [.tmp 4]) rfl rfl ?_
  intro wf
  repeat (first | rw [ko] | rw [kr] | simp -dsimp -implicitDefEqProofs only [go_sem])
  refine lz_keep [0] (fun m e h' => ∃ (i : Nat) (a : Int) (c' : List LCell), look e 5 .mk = .raw (.int .i64 (i : Nat)) ∧ look e 1 .mk = .raw (.int .i64 a) ∧ m + i = zs.length ∧ c'.length = i ∧ CurA h b 2 bs' h' (i * 2) ((c'.map eCell).flatten) (((zs.drop i).map eCell).flatten) ∧ Ch (HeCell W0) k0 c' a ∧ k0 ≤ a ∧ a ≤ k0 + 64 * (i + sumN szCell (zs.take i))) zs.length ?_ ?_
  ·exact ⟨0, k0, [], zsm, zsm, by omega, rfl, (CurA.start hb oc bl).cast (by omega) rfl rfl, .nil, by omega, by omega⟩
  rintro m e h' hks ⟨i, a, c', e5, e1, hm, hcl, cur0, ch, lo, hi⟩
  simp -dsimp -implicitDefEqProofs only [go_sem, sQ1] at hks
  by_cases q1 : (i : Int) < (zs.length : Int)
  ·have q2 : i < zs.length := by omega
   have hd : zs.drop i = zs.getD i default :: zs.drop (i + 1) := by rw [List.drop_eq_getElem_cons q2, List.getD_eq_getElem?_getD, List.getElem?_eq_getElem q2]; rfl
   have hst : sumN szCell (zs.take (i + 1)) = sumN szCell (zs.take i) + szCell (zs.getD i default) := sumN_take (f := szCell) q2
   have hle : sumN szCell (zs.take (i + 1)) ≤ sumN szCell zs := by
    have := sumN_append (f := szCell) (l := zs.take (i + 1)) (m := zs.drop (i + 1))
    rw [List.take_append_drop] at this
    omega
   have hsz2 : szCellS zs = zs.length + sumN szCell zs := rfl
   have hszE : szCell (zs.getD i default) = szPartSS (zs.getD i default).keys + szPartSS (zs.getD i default).values := rfl
   have w1 := wrap_succ q2 (by omega)
   have hi2 : (0 : Int) ≤ (i : Int) ∧ (i : Int) < (zs.length : Int) := by omega
   replace cur0 := cur0.cast (TB' := [.l 1 (rPartSS (zs.getD i default).keys), .l 1 (rPartSS (zs.getD i default).values)] ++ ((zs.drop (i + 1)).map eCell).flatten) rfl rfl (by rw [hd]; rfl)
   simp only [List.cons_append, List.nil_append] at cur0
   obtain ⟨cs0, y0, bb0, hblk0, hlt0, hget0, oy0, bly0, fin0⟩ := cur0.row
   have hy0 := OT.cell oy0
   repeat (first | rw [ko] | rw [kr] | simp -dsimp -implicitDefEqProofs only [go_sem, sQ1, hks, e5, e1, q1, hi2, Int.toNat_natCast, hoo, hblk0, hget0])
   refine wz_intro (markPartSS_tree oy0 bly0 ⟨by omega, by omega⟩) ?_
   rintro _ g0 ⟨k0, x0, rfl, lo0, hi0, o0, hh0, nn0, fr0⟩
   have cur1 := fin0 g0 _ o0 nn0 fr0
   obtain ⟨cs1, y1, bb1, hblk1, hlt1, hget1, oy1, bly1, fin1⟩ := cur1.row
   have hy1 := OT.cell oy1
   repeat (first | rw [ko] | rw [kr] | simp -dsimp -implicitDefEqProofs only [go_sem, sQ1, q1, hi2, Int.toNat_natCast, hoo, hblk1, hget1])
   refine wz_intro (markPartSS_tree oy1 bly1 ⟨by omega, by omega⟩) ?_
   rintro _ g1 ⟨k1, x1, rfl, lo1, hi1, o1, hh1, nn1, fr1⟩
   have cur2 := fin1 g1 _ o1 nn1 fr1
   repeat (first | rw [ko] | rw [kr] | simp -dsimp -implicitDefEqProofs only [go_sem, sQ1, hoo, w1])
   refine nx_keep (m - 1) (by omega) zsm ⟨i + 1, k1, c' ++ [(⟨x0, x1⟩ : LCell)], zsm, zsm, by omega, by simp [hcl], cur2.cast (by omega) (by simp [eCell, List.append_assoc]) rfl, ch.snoc ⟨k0, k1, ⟨hh0, lo0⟩, ⟨hh1, lo1⟩, rfl, by omega, by omega⟩ (by omega), by omega, by omega⟩
  ·repeat (first | rw [ko] | rw [kr] | simp -dsimp -implicitDefEqProofs only [go_sem, sQ1, hks, e5, e1, q1])
   have hi3 : i = zs.length := by omega
   rw [hi3] at cur0 hi
   rw [List.take_length] at hi
   rw [List.drop_length] at cur0
   have hcl2 : (rCellS c').length = zs.length := by rw [rCellS_len, hcl, hi3]
   obtain ⟨f1, f2, f3⟩ := CurA.full (es := rCellS c') cur0 (by rw [hcl2]) (fun e he => by
    obtain ⟨x, _, rfl⟩ := List.mem_map.1 he
    exact hE x)
   rw [hcl2] at f1
   exact ⟨a, c', rfl, lo, hi, f1, heldCellS_ch ch (by rw [hcl]; omega), f2, f3⟩
end Go.Bi
end
section
set_option maxRecDepth 20000
namespace Go.Bi
open Go.Proofs
open Go.Ai (wrap_i64)
variable {W0 : World} {P : Program}
set_option maxHeartbeats 4000000
theorem OT.setN {g : H2} {bs : List Nat} {x : X} {t : T} {N M b : Nat} {k : OB} (o : OT g bs x t) (bl : Bl N M bs) (hb : b < N) : OT (g.set b k) bs x t := o.frame fun q hq => by
 have := (bl.2 q hq).1
 simp only [H2.set]; rw [if_neg (by omega)]
end Go.Bi
end
section
set_option maxRecDepth 20000
namespace Go.Bi
open Go.Proofs
open Go.Ai (wrap_i64)
variable {W0 : World} {P : Program}
set_option maxHeartbeats 8000000
theorem Gr.setB {N b : Nat} {g : H2} {k : OB} {v : X} {z n : Nat} {ts : List T} {bs : List Nat} (gr : Gr N g v z n ts bs) (hb : b < N) : Gr N (g.set b k) v z n ts bs := by
 obtain ⟨cs, ⟨e1, e2⟩, t1, b1, d1⟩ := gr
 refine ⟨cs, ⟨e1, e2.imp_right ?_⟩, t1.frame fun q hq => ?_, by simp only [hn_set]; exact b1, d1⟩
 ·rintro ⟨q, f1, f2, f3, f4⟩
  exact ⟨q, f1, f2, by simp only [hn_set]; exact f3, by rw [hg_set, show (q == b) = false by simp; omega]; exact f4⟩
 ·have := b1.2 q hq
  simp only [H2.set]; rw [if_neg (by omega)]
end Go.Bi
end
section
set_option maxRecDepth 20000
namespace Go.Bi
open Go.Proofs
open Go.Ai (wrap_i64)
variable {W0 : World} {P : Program}
set_option maxHeartbeats 8000000
theorem app_ints {f : Adr} {h : H2} {K : KT} {zs : List Int} (hs : zs.length ≤ 1048576) (hk : ∀ y g' b, h.le g' → OT g' b y (.l 1 (ints zs)) → Bl (hn h .mk) (hn g' .mk) b → kz K y g' .mk) :
  az (biz Tryz.prog (h.push ⟨1, []⟩) .append [25, 25] [.raw (.slice (some ⟨hn h .mk, 0, none⟩) 0 0), .sl f 1 (ints zs)] .mk) K .mk := by
 refine append_ints (P := Tryz.prog) (D := fun _ => none) (N := hn h .mk) (xs := []) Go.Ai.ty_el25 Go.Ai.ty_zr3 Go.Ai.ty_cl25 (Own.new (Nat.le_refl _) rfl) (by simp only [hn_push]; omega) (by simp only [List.length_nil]; have : Go.Ai.most = 1099511627776 := rfl; omega) ?_
 intro y g1 oy n1 le1 fr1
 rw [List.nil_append] at oy
 obtain ⟨b, o, bl⟩ := OwnI.tree oy
 exact hk y g1 b (le1 h (Nat.le_refl _) (H2.le_push1 h _)) o bl
end Go.Bi
end
section
set_option maxRecDepth 20000
namespace Go.Bi
open Go.Proofs
open Go.Ai (wrap_i64)
variable {W0 : World} {P : Program}
set_option maxHeartbeats 8000000
theorem copyParts_new {f : Adr} {zs : List LPart} {g : H2} (hs : szPartS zs ≤ 1048576) : NewT Tryz.prog W0 113 [.sl f 2 (rPartS zs)] g (.l 2 (rPartS zs)) := by
 have hl : zs.length ≤ 1048576 := by unfold szPartS at hs; omega
 refine begins [[0], [0], [0, 3], [0, 3, 4], [0, 3, 4], [0, 3, 4], [3]] Tryz.func113 rfl (rs := [.tmp 2]) rfl rfl ?_
 intro wf
 repeat (first | rw [ko] | rw [kr] | simp -dsimp -implicitDefEqProofs only [go_sem, sQ1, sQ2, sQ3])
 refine lz_keep [0] (fun m e h' => ∃ (i : Nat) (v : X) (bs : List Nat), look e 4 .mk = .raw (.int .i64 (i : Nat)) ∧ look e 3 .mk = v ∧ m + i = zs.length ∧ g.le h' ∧ Gr (hn g .mk) h' v 2 i (((zs.take i).map ePart).flatten) bs) zs.length ?_ ?_
 ·exact ⟨0, _, [], zsm, by simp -dsimp -implicitDefEqProofs only [go_sem] <;> rfl, by omega, le_push (H2.le.refl _), Gr.empty (Nat.le_refl _)⟩
 rintro m e h' hks ⟨i, v, bs, ei, ev, hm, hle, gr⟩
 simp -dsimp -implicitDefEqProofs only [go_sem] at hks
 by_cases q1 : (i : Int) < (zs.length : Int)
 ·have q2 : i < zs.length := by omega
  have w1 := wrap_succ q2 (by omega)
  have hsl : szPart (zs.getD i default) ≤ sumN szPart zs := sumN_mem (f := szPart) (getD_mem q2)
  have hsz2 : szPartS zs = zs.length + sumN szPart zs := rfl
  have hv := Gr.cell gr
  have hp : (zs.getD i default).values.length ≤ 1048576 := by have : szPart (zs.getD i default) = (zs.getD i default).values.length := rfl; omega
  repeat (first | rw [ko] | rw [kr] | simp -dsimp -implicitDefEqProofs only [go_sem, sQ1, hks, ei, ev, q1])
  refine dq_intro [(0, []), (1, []), (2, []), (3, []), (4, []), (5, []), (7, []), (8, []), (9, []), (10, []), (11, []), (6, [5, 11]), (12, [5]), (13, []), (14, []), (15, []), (16, [])] (by kernel_rfl) ?_
  repeat (first | rw [ko] | rw [kr] | simp -dsimp -implicitDefEqProofs only [go_sem, sQ1, sQ2, sQ3, q2, hoo])
  refine app_ints hp ?_
  intro y g1 b1 l1 oy bl1
  have hy := OT.cell oy
  try (rw [kq]; refine ⟨zsm, ?_⟩)
  repeat (first | rw [ko] | rw [kr] | simp -dsimp -implicitDefEqProofs only [go_sem, sQ1, sQ2, sQ3, sQ4, hy])
  refine lit_intro (cs := [.raw (.int .i64 (zs.getD i default).shift), y]) rfl ?_
  intro w g2 hs2 l2
  try (rw [kq]; refine ⟨zsm, ?_⟩)
  repeat (first | rw [ko] | rw [kr] | simp -dsimp -implicitDefEqProofs only [go_sem, sQ1])
  have o1 : OTs g1 b1 [.raw (.int .i64 (zs.getD i default).shift), y] (ePart (zs.getD i default)) := outPart (c := zs.getD i default) oy
  have gr1 := gr.keep (l1.trans l2)
  have hvl := gr.lt
  have ll1 := l1.1
  have ll2 := l2.1
  have ll0 := hle.1
  refine append_gr (P := Tryz.prog) (D := fun _ => none) (N := hn g .mk) (us := ePart (zs.getD i default)) Go.Ai.ty_el156 Go.Ai.ty_zr196 rfl Go.Ai.ty_cl156 gr1 hs2 (OTs.frame o1 fun q hq => by have := bl1.2 q hq; exact l2.2 q (by omega)) rfl (by omega) (fun b hb => by have := bl1.2 b hb; omega) bl1.1 (fun b hb hb' => by have := gr.bl b hb; have := bl1.2 b hb'; omega) (fun b e hb' => by have := hvl b e; have := bl1.2 b hb'; omega) (by have : Go.Ai.most = 1099511627776 := rfl; omega) ?_
  intro v' g3 gr3 nn3 le3 fr3
  have hv' := Gr.cell gr3
  try (rw [kq]; refine ⟨zsm, ?_⟩)
  repeat (first | rw [ko] | rw [kr] | simp -dsimp -implicitDefEqProofs only [go_sem, sQ1, w1])
  refine nx_keep (m - 1) (by omega) zsm ⟨i + 1, v', _, zsm, zsm, by omega, le3 g (Nat.le_refl _) ((hle.trans l1).trans l2), (flat_next (E := ePart) q2).symm ▸ gr3⟩
 ·repeat (first | rw [ko] | rw [kr] | simp -dsimp -implicitDefEqProofs only [go_sem, sQ1, hks, ei, ev, q1])
  have hi : i = zs.length := by omega
  rw [hi, List.take_length] at gr
  obtain ⟨bs', o', bl'⟩ := Gr.tree (es := rPartS zs) gr (by rw [rPartS_len]) (fun e he => by obtain ⟨x, _, rfl⟩ := List.mem_map.1 he; rfl)
  exact ⟨hle, bs', o', bl'⟩
end Go.Bi
end
section
set_option maxRecDepth 20000
namespace Go.Bi
open Go.Proofs
open Go.Ai (wrap_i64)
variable {W0 : World} {P : Program}
set_option maxHeartbeats 8000000
theorem copyCell_new {F : Nat → Adr} {c : LCell} {g : H2} (hs : szCell c ≤ 1048576) : NewS Tryz.prog W0 52 [.st (xCell F c)] g (eCell c) := by
 have hsz : szCell c = (c.keys.length + sumN szPartS c.keys) + (c.values.length + sumN szPartS c.values) := rfl
 refine begins [[0], [1, 2], [1, 2, 3], [1, 2, 3, 4], [1, 2, 3, 4], [1, 2, 3, 4], [1, 2, 3], [1, 2, 3, 5], [1, 2, 3, 5], [1, 2, 3, 5], [2, 3]] Tryz.func52 rfl (rs := [.cell 2 37]) rfl rfl ?_
 intro wf
 have n01 : ((hn g .mk) == (hn g .mk + 1)) = false := zne
 have n02 : ((hn g .mk) == (hn g .mk + 1 + 1)) = false := zne
 have n10 : ((hn g .mk + 1) == (hn g .mk)) = false := zne
 have n12 : ((hn g .mk + 1) == (hn g .mk + 1 + 1)) = false := zne
 have n20 : ((hn g .mk + 1 + 1) == (hn g .mk)) = false := zne
 have n21 : ((hn g .mk + 1 + 1) == (hn g .mk + 1)) = false := zne
 repeat (first | rw [ko] | rw [kr] | simp -dsimp -implicitDefEqProofs only [go_sem, sQ1, sQ2, hoo])
 refine lz_keep [1, 2, 3] (fun m e h' => ∃ (i : Nat) (v : X) (bs : List Nat), look e 4 .mk = .raw (.int .i64 (i : Nat)) ∧ m + i = c.keys.length ∧ g.le h' ∧ hn g .mk + 3 ≤ hn h' .mk ∧ hg h' (hn g .mk) .mk = some ⟨2, [.sl (F 0) 1 (rPartSS c.keys), .sl (F 1) 1 (rPartSS c.values)]⟩ ∧ hg h' (hn g .mk + 1) .mk = some ⟨2, [.raw (.slice none 0 0), .raw (.slice none 0 0)]⟩ ∧ hg h' (hn g .mk + 1 + 1) .mk = some ⟨2, [v, .raw (.slice none 0 0)]⟩ ∧ Gr (hn g .mk + 3) h' v 1 i (((c.keys.take i).map ePartS).flatten) bs) c.keys.length ?_ ?_
 ·exact ⟨0, .raw (.slice none 0 0), [], zsm, by omega, zale, by simp only [hn_push, hn_set]; omega, by simp -dsimp -implicitDefEqProofs only [go_sem, hoo, n01, n02] <;> rfl, by simp -dsimp -implicitDefEqProofs only [go_sem, hoo, n12] <;> rfl, by simp -dsimp -implicitDefEqProofs only [go_sem, hoo] <;> rfl, Gr.nil⟩
 rintro m e h' hks ⟨i, v, bs, ei, hm, hle, hnn, r1, r2, r3, gr⟩
 simp -dsimp -implicitDefEqProofs only [go_sem] at hks
 by_cases q1 : (i : Int) < (c.keys.length : Int)
 ·skip
  have q2 : i < c.keys.length := by omega
  have w1 := wrap_succ q2 (by omega)
  have hv := Gr.cell gr
  have hsl : szPartS (c.keys.getD i default) ≤ sumN szPartS c.keys := sumN_mem (f := szPartS) (getD_mem q2)
  repeat (first | rw [ko] | rw [kr] | simp -dsimp -implicitDefEqProofs only [go_sem, sQ1, hks, ei, q1, hoo, r1])
  refine dq_intro [(0, []), (1, []), (2, []), (3, []), (4, []), (5, []), (6, []), (7, [1]), (8, [1]), (9, []), (10, []), (11, [])] (by kernel_rfl) ?_
  repeat (first | rw [ko] | rw [kr] | simp -dsimp -implicitDefEqProofs only [go_sem, sQ1, hoo, r1, r3, q2])
  refine wz_intro (copyParts_new (f := under (under (F 0) i) 0) (zs := c.keys.getD i default) (by omega)) ?_
  rintro y g1 ⟨l1, b1, o1, bl1⟩
  have hy := OT.cell o1
  have ll1 := l1.1
  have hvl := gr.lt
  have ra0 := (l1.2 (hn g .mk) zau).trans r1
  have ra1 := (l1.2 (hn g .mk + 1) zau).trans r2
  have ra2 := (l1.2 (hn g .mk + 1 + 1) zau).trans r3
  try (rw [kq]; refine ⟨by simp -dsimp -implicitDefEqProofs only [go_sem, sQ1, hoo, ra2], ?_⟩)
  repeat (first | rw [ko] | rw [kr] | simp -dsimp -implicitDefEqProofs only [go_sem, sQ3, hoo, hy])
  refine lit_intro (cs := [y]) rfl ?_
  intro w g2 hs2 l2
  have ll2 := l2.1
  have rb0 := (l2.2 (hn g .mk) zau).trans ra0
  have rb1 := (l2.2 (hn g .mk + 1) zau).trans ra1
  have rb2 := (l2.2 (hn g .mk + 1 + 1) zau).trans ra2
  try (rw [kq]; refine ⟨by simp -dsimp -implicitDefEqProofs only [go_sem, sQ1, hoo, rb2], ?_⟩)
  repeat (first | rw [ko] | rw [kr] | simp -dsimp -implicitDefEqProofs only [go_sem, sQ1, hoo])
  refine append_gr (P := Tryz.prog) (D := fun _ => none) (N := hn g .mk + 3) (us := [.l 2 (rPartS (c.keys.getD i default))]) Go.Ai.ty_el35 Go.Ai.ty_zr156 rfl Go.Ai.ty_cl35 (gr.keep (l1.trans l2)) hs2 (OTs.one (o1.frame fun q hq => by have := bl1.2 q hq; exact l2.2 q (by omega))) rfl (by omega) (fun b hb => by have := bl1.2 b hb; omega) bl1.1 (fun b hb hb' => by have := gr.bl b hb; have := bl1.2 b hb'; omega) (fun b e hb' => by have := hvl b e; have := bl1.2 b hb'; omega) (by have : Go.Ai.most = 1099511627776 := rfl; omega) ?_
  intro v' g3 gr3 nn3 le3 fr3
  have hv' := Gr.cell gr3
  have rc0 := (fr3 (hn g .mk) zau (fun e => by have := hvl _ e; omega)).trans rb0
  have rc1 := (fr3 (hn g .mk + 1) zau (fun e => by have := hvl _ e; omega)).trans rb1
  have rc2 := (fr3 (hn g .mk + 1 + 1) zau (fun e => by have := hvl _ e; omega)).trans rb2
  try (rw [kq]; refine ⟨zsm, ?_⟩)
  repeat (first | rw [ko] | rw [kr] | simp -dsimp -implicitDefEqProofs only [go_sem, sQ1, hoo, rc2, w1, hv'])
  refine nx_keep (m - 1) (by omega) zsm ⟨i + 1, v', _, zsm, by omega, le_set (le3 g (by omega) ((hle.trans l1).trans l2)) (by omega), by simp only [hn_set]; omega, by simp -dsimp -implicitDefEqProofs only [go_sem, rc0, n02] <;> rfl, by simp -dsimp -implicitDefEqProofs only [go_sem, rc1, n12] <;> rfl, by simp -dsimp -implicitDefEqProofs only [go_sem, hoo] <;> rfl, (flat_next (E := ePartS) q2).symm ▸ Gr.setB gr3 (by omega)⟩
 have hi : i = c.keys.length := by omega
 rw [hi, List.take_length] at gr
 have hv := Gr.cell gr
 obtain ⟨bA, oA, blA⟩ := Gr.tree (es := rPartSS c.keys) gr (by rw [rPartSS_len]) (fun e he => by obtain ⟨x, _, rfl⟩ := List.mem_map.1 he; rfl)
 repeat (first | rw [ko] | rw [kr] | simp -dsimp -implicitDefEqProofs only [go_sem, sQ1, hks, ei, q1, r1, hoo])
 clear ei q1 hi gr hm
 have vA := v
 refine lz_keep [1, 2, 3] (fun m2 e2 h2 => ∃ (i : Nat) (v2 : X) (bs : List Nat), look e2 5 .mk = .raw (.int .i64 (i : Nat)) ∧ m2 + i = c.values.length ∧ hn h' .mk ≤ hn h2 .mk ∧ (∀ b, b < hn h' .mk → b ≠ hn g .mk + 1 + 1 → hg h2 b .mk = hg h' b .mk) ∧ hg h2 (hn g .mk + 1 + 1) .mk = some ⟨2, [v, v2]⟩ ∧ Gr (hn h' .mk) h2 v2 1 i (((c.values.take i).map ePartS).flatten) bs) c.values.length ?_ ?_
 ·exact ⟨0, .raw (.slice none 0 0), [], zsm, by omega, Nat.le_refl _, fun _ _ _ => rfl, by simp -dsimp -implicitDefEqProofs only [go_sem, r3] <;> rfl, Gr.nil⟩
 rintro m2 e2 h2 hks2 ⟨i, v2, bs2, ei, hm, hn2, fr2, r3', gr⟩
 simp -dsimp -implicitDefEqProofs only [go_sem] at hks2
 have r1' := (fr2 (hn g .mk) (by omega) (by omega)).trans r1
 have r2' := (fr2 (hn g .mk + 1) (by omega) (by omega)).trans r2
 by_cases q1 : (i : Int) < (c.values.length : Int)
 ·skip
  have q2 : i < c.values.length := by omega
  have w1 := wrap_succ q2 (by omega)
  have hv := Gr.cell gr
  have hsl : szPartS (c.values.getD i default) ≤ sumN szPartS c.values := sumN_mem (f := szPartS) (getD_mem q2)
  repeat (first | rw [ko] | rw [kr] | simp -dsimp -implicitDefEqProofs only [go_sem, sQ1, hks2, ei, q1, hoo, r1'])
  refine dq_intro [(0, []), (1, []), (2, []), (3, []), (4, []), (5, []), (6, []), (7, [1]), (8, [1]), (9, []), (10, []), (11, [])] (by kernel_rfl) ?_
  repeat (first | rw [ko] | rw [kr] | simp -dsimp -implicitDefEqProofs only [go_sem, sQ1, hoo, r1', r3', q2])
  refine wz_intro (copyParts_new (f := under (under (F 1) i) 0) (zs := c.values.getD i default) (by omega)) ?_
  rintro y g1 ⟨l1, b1, o1, bl1⟩
  have hy := OT.cell o1
  have ll1 := l1.1
  have hvl := gr.lt
  have ra0 := (l1.2 (hn g .mk) zau).trans r1'
  have ra1 := (l1.2 (hn g .mk + 1) zau).trans r2'
  have ra2 := (l1.2 (hn g .mk + 1 + 1) zau).trans r3'
  try (rw [kq]; refine ⟨by simp -dsimp -implicitDefEqProofs only [go_sem, sQ1, hoo, ra2], ?_⟩)
  repeat (first | rw [ko] | rw [kr] | simp -dsimp -implicitDefEqProofs only [go_sem, sQ3, hoo, hy])
  refine lit_intro (cs := [y]) rfl ?_
  intro w g2 hs2 l2
  have ll2 := l2.1
  have rb0 := (l2.2 (hn g .mk) zau).trans ra0
  have rb1 := (l2.2 (hn g .mk + 1) zau).trans ra1
  have rb2 := (l2.2 (hn g .mk + 1 + 1) zau).trans ra2
  try (rw [kq]; refine ⟨by simp -dsimp -implicitDefEqProofs only [go_sem, sQ1, hoo, rb2], ?_⟩)
  repeat (first | rw [ko] | rw [kr] | simp -dsimp -implicitDefEqProofs only [go_sem, sQ1, hoo])
  refine append_gr (P := Tryz.prog) (D := fun _ => none) (N := hn h' .mk) (us := [.l 2 (rPartS (c.values.getD i default))]) Go.Ai.ty_el35 Go.Ai.ty_zr156 rfl Go.Ai.ty_cl35 (gr.keep (l1.trans l2)) hs2 (OTs.one (o1.frame fun q hq => by have := bl1.2 q hq; exact l2.2 q (by omega))) rfl (by omega) (fun b hb => by have := bl1.2 b hb; omega) bl1.1 (fun b hb hb' => by have := gr.bl b hb; have := bl1.2 b hb'; omega) (fun b e hb' => by have := hvl b e; have := bl1.2 b hb'; omega) (by have : Go.Ai.most = 1099511627776 := rfl; omega) ?_
  intro v' g3 gr3 nn3 le3 fr3
  have hv' := Gr.cell gr3
  have rc0 := (fr3 (hn g .mk) zau (fun e => by have := hvl _ e; omega)).trans rb0
  have rc1 := (fr3 (hn g .mk + 1) zau (fun e => by have := hvl _ e; omega)).trans rb1
  have rc2 := (fr3 (hn g .mk + 1 + 1) zau (fun e => by have := hvl _ e; omega)).trans rb2
  try (rw [kq]; refine ⟨zsm, ?_⟩)
  repeat (first | rw [ko] | rw [kr] | simp -dsimp -implicitDefEqProofs only [go_sem, sQ1, hoo, rc2, w1, hv'])
  refine nx_keep (m2 - 1) (by omega) zsm ⟨i + 1, v', _, zsm, by omega, by simp only [hn_set]; omega, fun b h1 h3 => ?_, by simp -dsimp -implicitDefEqProofs only [go_sem, hoo] <;> rfl, (flat_next (E := ePartS) q2).symm ▸ Gr.setB gr3 (by omega)⟩
  rw [hg_set, show (b == hn g .mk + 1 + 1) = false by simp [h3]]
  exact ((fr3 b (by omega) (fun e => by have := hvl _ e; omega)).trans ((l2.2 b (by omega)).trans (l1.2 b (by omega)))).trans (fr2 b h1 h3)
 have hi : i = c.values.length := by omega
 rw [hi, List.take_length] at gr
 have hv2 := Gr.cell gr
 obtain ⟨bB, oB, blB⟩ := Gr.tree (es := rPartSS c.values) gr (by rw [rPartSS_len]) (fun e he => by obtain ⟨x, _, rfl⟩ := List.mem_map.1 he; rfl)
 repeat (first | rw [ko] | rw [kr] | simp -dsimp -implicitDefEqProofs only [go_sem, sQ1, sQ2, hks2, ei, q1, r1', r2', r3', hoo, hv, hv2])
 have hle2 : g.le h2 := ⟨by omega, fun b hb => (fr2 b (by omega) (by omega)).trans (hle.2 b hb)⟩
 refine ⟨le_set hle2 (by omega), _, bA ++ bB, rfl, outCell (c := c) ((oA.frame (g' := h2) fun q hq => by have := blA.2 q hq; exact fr2 q (by omega) (by omega)).setN blA (by omega)) (oB.setN blB (by omega)), ?_⟩
 simp only [hn_set]
 exact (blA.append blB (by omega) (by omega)).wide (by omega) (Nat.le_refl _)
theorem copyCells_new {f : Adr} {zs : List LCell} {g : H2} (hs : szCellS zs ≤ 1048576) : NewT Tryz.prog W0 80 [.sl f 2 (rCellS zs)] g (.l 2 (rCellS zs)) := by
 have hl : zs.length ≤ 1048576 := by unfold szCellS at hs; omega
 refine begins [[0], [0], [0, 3], [0, 3, 4], [0, 3, 4], [0, 3, 4], [3]] Tryz.func80 rfl (rs := [.tmp 2]) rfl rfl ?_
 intro wf
 repeat (first | rw [ko] | rw [kr] | simp -dsimp -implicitDefEqProofs only [go_sem, sQ1, sQ2, sQ3])
 refine lz_keep [0] (fun m e h' => ∃ (i : Nat) (v : X) (bs : List Nat), look e 4 .mk = .raw (.int .i64 (i : Nat)) ∧ look e 3 .mk = v ∧ m + i = zs.length ∧ g.le h' ∧ Gr (hn g .mk) h' v 2 i (((zs.take i).map eCell).flatten) bs) zs.length ?_ ?_
 ·exact ⟨0, _, [], zsm, by simp -dsimp -implicitDefEqProofs only [go_sem] <;> rfl, by omega, le_push (H2.le.refl _), Gr.empty (Nat.le_refl _)⟩
 rintro m e h' hks ⟨i, v, bs, ei, ev, hm, hle, gr⟩
 simp -dsimp -implicitDefEqProofs only [go_sem] at hks
 by_cases q1 : (i : Int) < (zs.length : Int)
 ·have q2 : i < zs.length := by omega
  have w1 := wrap_succ q2 (by omega)
  have hsl : szCell (zs.getD i default) ≤ sumN szCell zs := sumN_mem (f := szCell) (getD_mem q2)
  have hsz2 : szCellS zs = zs.length + sumN szCell zs := rfl
  have hv := Gr.cell gr
  repeat (first | rw [ko] | rw [kr] | simp -dsimp -implicitDefEqProofs only [go_sem, sQ1, sQ2, sQ3, hks, ei, ev, q1, q2, hoo])
  refine wz_intro (copyCell_new (F := fun j => under (under f i) j) (c := zs.getD i default) (by omega)) ?_
  rintro _ g1 ⟨l1', ys, b1, rfl, o1, bl1⟩
  obtain ⟨b0, s0, b2, s2, rfl, rfl, oa, ob⟩ := invCell o1
  have hy1 := OT.cell oa
  have hy2 := OT.cell ob
  have l1 : h'.le g1 := l1'
  have ll1' := l1'.1
  try simp only [hn_push] at bl1 ll1'
  repeat (first | rw [ko] | rw [kr] | simp -dsimp -implicitDefEqProofs only [go_sem, sQ2, sQ3, sQ4])
  refine lit_intro (cs := [s0, s2]) rfl ?_
  intro w g2 hs2 l2
  repeat (first | rw [ko] | rw [kr] | simp -dsimp -implicitDefEqProofs only [go_sem, sQ1])
  have gr1 := gr.keep (l1.trans l2)
  have hvl := gr.lt
  have ll1 := l1.1
  have ll2 := l2.1
  have ll0 := hle.1
  refine append_gr (P := Tryz.prog) (D := fun _ => none) (N := hn g .mk) (us := eCell (zs.getD i default)) Go.Ai.ty_el47 Go.Ai.ty_zr37 rfl Go.Ai.ty_cl47 gr1 hs2 (OTs.frame o1 fun q hq => by have := bl1.2 q hq; exact l2.2 q (by omega)) rfl (by omega) (fun b hb => by have := bl1.2 b hb; omega) bl1.1 (fun b hb hb' => by have := gr.bl b hb; have := bl1.2 b hb'; omega) (fun b e hb' => by have := hvl b e; have := bl1.2 b hb'; omega) (by have : Go.Ai.most = 1099511627776 := rfl; omega) ?_
  intro v' g3 gr3 nn3 le3 fr3
  have hv' := Gr.cell gr3
  repeat (first | rw [ko] | rw [kr] | simp -dsimp -implicitDefEqProofs only [go_sem, sQ1, w1])
  refine nx_keep (m - 1) (by omega) zsm ⟨i + 1, v', _, zsm, zsm, by omega, le3 g (Nat.le_refl _) ((hle.trans l1).trans l2), (flat_next (E := eCell) q2).symm ▸ gr3⟩
 ·repeat (first | rw [ko] | rw [kr] | simp -dsimp -implicitDefEqProofs only [go_sem, sQ1, hks, ei, ev, q1])
  have hi : i = zs.length := by omega
  rw [hi, List.take_length] at gr
  obtain ⟨bs', o', bl'⟩ := Gr.tree (es := rCellS zs) gr (by rw [rCellS_len]) (fun e he => by obtain ⟨x, _, rfl⟩ := List.mem_map.1 he; rfl)
  exact ⟨hle, bs', o', bl'⟩
end Go.Bi
end
section
set_option maxRecDepth 20000
namespace Go.Bi
open Go.Proofs
open Go.Ai (wrap_i64 Heap)
variable {W0 : World} {P : Program}
set_option maxHeartbeats 8000000
def RTok (ok : Bool) (c : LCell) (lg : List Int) (x : X) (g : H2) (bs : List Nat) : Prop := ∃ w1 w2 v b1 b2 b3, bs = b1 ++ b2 ++ b3 ∧ x = .tp [.st [w1, w2], v, .raw (.bool ok)] ∧ OT g b1 w1 (.l 1 (rPartSS c.keys)) ∧ OT g b2 w2 (.l 1 (rPartSS c.values)) ∧ OT g b3 v (.l 1 (ints lg))
theorem lend_tok {ok : Bool} {c : LCell} {lg : List Int} {f : FuncId} {xs ys : List X} {g : H2} (hl : Lents g xs ys) (h : WC2 P W0 f ys g.bare (fun y g' => g.bare.le g' ∧ ∃ bs, RTok ok c lg y g' bs ∧ Bl (hn g .mk) (hn g' .mk) bs)) :
  WC2 P W0 f xs g (fun y g' => g.le g' ∧ ∃ bs, RTok ok c lg y g' bs ∧ Bl (hn g .mk) (hn g' .mk) bs) := by
 refine WC2.lendTree hl h ?_ ?_ ?_
 ·rintro x g' g2 bs ⟨w1, w2, v, b1, b2, b3, rfl, rfl, o1, o2, o3⟩ hb
  exact ⟨w1, w2, v, b1, b2, b3, rfl, rfl, o1.frame fun b h => hb b (by simp [h]), o2.frame fun b h => hb b (by simp [h]), o3.frame fun b h => hb b (by simp [h])⟩
 ·rintro x g' bs ⟨w1, w2, v, b1, b2, b3, rfl, rfl, o1, o2, o3⟩ b hb
  simp only [List.mem_append] at hb
  rcases hb with (h | h) | h
  ·exact o1.rows b h
  ·exact o2.rows b h
  ·exact o3.rows b h
 ·rintro x g' bs ⟨w1, w2, v, b1, b2, b3, rfl, rfl, o1, o2, o3⟩ h g2
  obtain ⟨u1, rfl⟩ := o1.israw
  obtain ⟨u2, rfl⟩ := o2.israw
  obtain ⟨u3, rfl⟩ := o3.israw
  refine .tp fun x hx => ?_
  simp only [List.mem_cons, List.not_mem_nil, or_false] at hx
  rcases hx with rfl | rfl | rfl
  ·refine .st fun x hx => ?_
   simp only [List.mem_cons, List.not_mem_nil, or_false] at hx
   rcases hx with rfl | rfl <;> exact .raw
  ·exact .raw
  ·exact .raw
theorem tokenA_new {F : Nat → Adr} {m : LModel} {fp : Adr} {past : List LCell} {t : Nat} {g : H2} (ht : ModT m) (hp : ∀ c ∈ past, CellT m c) (hpl : (past.length : Int) < m.context) (htk : t < m.embed.length) (hsz : m.embed.length ≤ 1048576) :
  WC2 Tryz.prog W0 64 [.st (xRun F m (.pointer none)), .sl fp 2 (rCellS past), .raw (.int .i64 t)] g (fun y g' => g.le g' ∧ ∃ bs, RTok true (cellI m past t) (logitsI m past t) y g' bs ∧ Bl (hn g .mk) (hn g' .mk) bs) := by
 refine (tokenA_ok (F := F) (p := none) (r := 0) (s := 0) Mt.none ht hp hpl htk hsz).mono ?_
 rintro x g' ⟨h1, _, w1, w2, v, b1, b2, b3, rfl, o1, o2, o3, bl⟩
 exact ⟨OnM.toLe h1 (fun b e => by cases e), _, ⟨w1, w2, v, b1, b2, b3, rfl, rfl, o1, o2, o3⟩, bl⟩
theorem cells_flat {l : List LCell} {c : LCell} : ((l ++ [c]).map eCell).flatten = (l.map eCell).flatten ++ [.l 1 (rPartSS c.keys), .l 1 (rPartSS c.values)] := by
 rw [List.map_append, List.flatten_append]
 rfl
theorem fillA_tree {F : Nat → Adr} {m : LModel} {f : Adr} {ts : List Int} {g : H2} (ht : ModT m) (hl : (ts.length : Int) ≤ m.context) (ha : allI ts 0 (vocI m - 1) = true) (hsz : m.embed.length ≤ 1048576) :
  WC2 Tryz.prog W0 82 [.st (xRun F m (.pointer none)), .sl f 1 (ints ts)] g (fun y g' => g.le g' ∧ ∃ w v b b', y = .tp [w, v, .raw (.bool true)] ∧ OT g' b w (.l 2 (rCellS (fillI m ts ts.length))) ∧ OT g' b' v (.l 1 (ints (fillL m ts ts.length))) ∧ Bl (hn g .mk) (hn g' .mk) (b ++ b')) := by
 have hct := (turns_t ht.turns).1
 refine begins [[0, 1], [1, 2], [1, 2, 7, 8], [2, 7, 8, 16, 17, 18], [2, 7, 16, 17, 18], [2, 7, 10, 16, 17, 18], [2, 7, 11, 12, 13, 16, 17, 18], [], [2, 7, 11, 12, 16, 17, 18], [2, 7, 12, 16, 17, 18], [2, 7, 8, 16, 17, 18], [7, 8]] Tryz.func82 rfl (rs := [.tmp 4, .tmp 5, .tmp 6]) rfl rfl ?_
 intro wf
 repeat (first | rw [ko] | rw [kr] | simp -dsimp -implicitDefEqProofs only [go_sem, sQ1, sQ2, sQ3, hoo])
 refine lz_keep [2, 16, 17] (fun mm e h' => ∃ (i : Nat) (v x : X) (bs b2 : List Nat), g.le h' ∧ hn g .mk + 1 ≤ hn h' .mk ∧ hg h' (hn g .mk) .mk = some ⟨15, [.raw (.int .i64 m.dim), .raw (.int .i64 m.heads), .raw (.int .i64 m.context), .sl (F 3) 2 (rMergeS m.merges), .sl (F 4) 1 (rIntSS m.embed), .sl (F 5) 32 (rLayerS m.layers), .sl (F 6) 1 (ints m.gainEnd), .raw (.int .i64 m.head.width), .sl (F 8) 1 (rIntSS m.head.rows), .sl (F 9) 1 (rIntSS m.head.scales), .raw (.int .i64 m.head.mul), .raw (.int .i64 m.head.shift), .sl (F 12) 1 (rIntSS m.turns.cos), .sl (F 13) 1 (rIntSS m.turns.sin), .raw (.pointer none)]⟩ ∧ look e 18 .mk = .raw (.int .i64 (i : Nat)) ∧ look e 7 .mk = v ∧ look e 8 .mk = x ∧ mm + i = ts.length ∧ Gr (hn g .mk + 1) h' v 2 i ((fillI m ts i).map eCell).flatten bs ∧ OT h' b2 x (.l 1 (ints (fillL m ts i))) ∧ Bl (hn g .mk + 1) (hn h' .mk) b2 ∧ ∀ b ∈ b2, b ∉ bs ∧ blockOf v ≠ some b) ts.length ?_ ?_
 ·have hne : (hn g .mk == hn g .mk + 1) = false := by simp
  have hne2 : (hn g .mk == hn g .mk + 1 + 1) = false := zne
  obtain ⟨b2, o2, bl2⟩ := (ownI_mk (N := hn g .mk + 1 + 1) (g := ((g.push ⟨15, [.raw (.int .i64 m.dim), .raw (.int .i64 m.heads), .raw (.int .i64 m.context), .sl (F 3) 2 (rMergeS m.merges), .sl (F 4) 1 (rIntSS m.embed), .sl (F 5) 32 (rLayerS m.layers), .sl (F 6) 1 (ints m.gainEnd), .raw (.int .i64 m.head.width), .sl (F 8) 1 (rIntSS m.head.rows), .sl (F 9) 1 (rIntSS m.head.scales), .raw (.int .i64 m.head.mul), .raw (.int .i64 m.head.shift), .sl (F 12) 1 (rIntSS m.turns.cos), .sl (F 13) 1 (rIntSS m.turns.sin), .raw (.pointer none)]⟩).push ⟨2, []⟩).push ⟨1, []⟩) (b := hn g .mk + 1 + 1) (zs := []) rfl (by omega) (by simp only [hn_push]; omega) (by simp -dsimp -implicitDefEqProofs only [go_sem, hoo] <;> rfl)).tree
  have gr0 : Gr (hn g .mk + 1) ((g.push ⟨15, [.raw (.int .i64 m.dim), .raw (.int .i64 m.heads), .raw (.int .i64 m.context), .sl (F 3) 2 (rMergeS m.merges), .sl (F 4) 1 (rIntSS m.embed), .sl (F 5) 32 (rLayerS m.layers), .sl (F 6) 1 (ints m.gainEnd), .raw (.int .i64 m.head.width), .sl (F 8) 1 (rIntSS m.head.rows), .sl (F 9) 1 (rIntSS m.head.scales), .raw (.int .i64 m.head.mul), .raw (.int .i64 m.head.shift), .sl (F 12) 1 (rIntSS m.turns.cos), .sl (F 13) 1 (rIntSS m.turns.sin), .raw (.pointer none)]⟩).push ⟨2, []⟩) (.raw (.slice (some ⟨hn (g.push ⟨15, [.raw (.int .i64 m.dim), .raw (.int .i64 m.heads), .raw (.int .i64 m.context), .sl (F 3) 2 (rMergeS m.merges), .sl (F 4) 1 (rIntSS m.embed), .sl (F 5) 32 (rLayerS m.layers), .sl (F 6) 1 (ints m.gainEnd), .raw (.int .i64 m.head.width), .sl (F 8) 1 (rIntSS m.head.rows), .sl (F 9) 1 (rIntSS m.head.scales), .raw (.int .i64 m.head.mul), .raw (.int .i64 m.head.shift), .sl (F 12) 1 (rIntSS m.turns.cos), .sl (F 13) 1 (rIntSS m.turns.sin), .raw (.pointer none)]⟩) .mk, 0, none⟩) 0 0)) 2 0 [] [] := Gr.empty (by simp only [hn_push]; omega)
  refine ⟨0, _, _, [], b2, le_push (le_push (le_push (H2.le.refl _))), by simp only [hn_push]; omega, by simp -dsimp -implicitDefEqProofs only [go_sem, hoo, hne, hne2], zsm, by simp -dsimp -implicitDefEqProofs only [go_sem, sQ1] <;> rfl, by simp -dsimp -implicitDefEqProofs only [go_sem, sQ1] <;> rfl, by omega, gr0.keep (le_push (H2.le.refl _)), o2, bl2.wide (by omega) (Nat.le_refl _), fun b hb => ⟨by simp, ?_⟩⟩
  have := (bl2.2 b hb).1
  simp only [blockOf, hn_push, ne_eq, Option.some.injEq]
  omega
 rintro mm e h' hks ⟨i, v, x, bs, b2, leL, nn, row, ei, ev, ex, hm, gr, ox, bl2, dj⟩
 simp -dsimp -implicitDefEqProofs only [go_sem, sQ1] at hks
 have cv := Gr.cell gr
 have cx := OT.cell ox
 have hfl := fillI_len (m := m) (ts := ts) (n := i)
 by_cases q1 : (i : Int) < (ts.length : Int)
 rotate_left
 ·repeat (first | rw [ko] | rw [kr] | simp -dsimp -implicitDefEqProofs only [go_sem, sQ1, hks, ei, ev, ex, q1, cv, cx])
  obtain rfl : i = ts.length := by omega
  obtain ⟨b1, o1, nd1, m1⟩ := Gr.tree2 (es := rCellS (fillI m ts ts.length)) gr (by rw [rCellS_len, hfl]) (fun e he => by obtain ⟨c, _, rfl⟩ := List.mem_map.1 he; rfl)
  refine ⟨leL, v, x, b1, b2, rfl, o1, ox, List.nodup_append.2 ⟨nd1, bl2.1, fun a ha b hb e => ?_⟩, fun b hb => ?_⟩
  ·subst e
   rcases m1 a ha with h | h
   ·exact (dj a hb).1 h
   ·exact (dj a hb).2 h
  ·rcases List.mem_append.1 hb with h | h
   ·rcases m1 b h with h | h
    ·have := gr.bl b h; omega
    ·have := gr.lt b h; omega
   ·have := bl2.2 b h; omega
 have q2 : i < ts.length := by omega
 have w1 := zwrs i (by omega)
 obtain ⟨k0, k1⟩ := tok_in ht ha q2
 obtain ⟨k, hk⟩ := Int.eq_ofNat_of_zero_le k0
 have hkn : (ts.getD i default).toNat = k := by omega
 have hpast := fillI_t (ts := ts) ht (n := i) (by omega) (fun j hj => (tok_in ht ha hj).2)
 have e4 : fillI m ts (i + 1) = fillI m ts i ++ [cellI m (fillI m ts i) k] := by rw [fillI, hkn]
 have e5 : fillL m ts (i + 1) = logitsI m (fillI m ts i) k := by rw [fillL, hkn]
 obtain ⟨b1, o1, _, _⟩ := Gr.tree2 (es := rCellS (fillI m ts i)) gr (by rw [rCellS_len, hfl]) (fun e he => by obtain ⟨c, _, rfl⟩ := List.mem_map.1 he; rfl)
 obtain ⟨f3, hf3⟩ := o1.lent
 repeat (first | rw [ko] | rw [kr] | simp -dsimp -implicitDefEqProofs only [go_sem, sQ1, hks, ei, ev, ex, q1, q2, row, hk])
 refine wz_intro (lend_tok (.cons (fz_st (xs := xRun F m (.pointer none)) rfl) (.cons hf3 (.cons lent_raw .nil))) (tokenA_new ht hpast (by omega) (by omega) hsz)) ?_
 rintro _ g1 ⟨l1, _, ⟨u1, u2, lv, c1, c2, c3, rfl, rfl, p1, p2, p3⟩, bl⟩
 have d1 := OT.cell p1
 have d2 := OT.cell p2
 have d3 := OT.cell p3
 have nn1 := l1.1
 repeat (first | rw [ko] | rw [kr] | simp -dsimp -implicitDefEqProofs only [go_sem, sQ1, sQ2, sQ3, sQ4, d1, d2, hoo])
 refine lit_intro (cs := [u1, u2]) rfl ?_
 intro w5 g2 hs2 l2
 have LG : g1.le (g1.push ⟨2, [u1, u2]⟩) := le_push (H2.le.refl _)
 have l12 : g1.le g2 := LG.trans l2
 have nn2 := l12.1
 have gr2 := gr.keep (l1.trans l12)
 have b1l := bl.left.left
 have b2l := bl.left.right
 have b3l := bl.right
 have q12 := bl.left.disj
 have q3 := bl.disj
 have r2 := p1.keep l12 b1l
 have r3 := p2.keep l12 b2l
 have r4 := p3.keep l12 b3l
 have ox2 := ox.keep (l1.trans l12) bl2
 have vb := gr.lt
 have bb := gr.bl
 have row2 : hg g2 (hn g .mk) .mk = _ := ((l1.trans l12).2 (hn g .mk) (by omega)).trans row
 repeat (first | rw [ko] | rw [kr] | simp -dsimp -implicitDefEqProofs only [go_sem, hoo])
 refine append_grF (P := Tryz.prog) (N := hn g .mk + 1) (us := [.l 1 (rPartSS (cellI m (fillI m ts i) k).keys), .l 1 (rPartSS (cellI m (fillI m ts i) k).values)]) (b2 := c1 ++ (c2 ++ [])) Go.Ai.ty_el47 Go.Ai.ty_zr37 rfl Go.Ai.ty_cl47 (by omega) gr2 hs2 (.cons r2 (.cons r3 .nil)) rfl (by omega) (fun b hb => ?_) ?_ (fun b hb hb' => ?_) (fun b e hb' => ?_) (by omega) ?_
 ·rw [List.append_nil] at hb
  rcases List.mem_append.1 hb with h | h
  ·have := b1l.2 b h; omega
  ·have := b2l.2 b h; omega
 ·rw [List.append_nil]; exact bl.left.1
 ·rw [List.append_nil] at hb'
  have := bb b hb
  rcases List.mem_append.1 hb' with h | h
  ·have := b1l.2 b h; omega
  ·have := b2l.2 b h; omega
 ·rw [List.append_nil] at hb'
  have := vb b e
  rcases List.mem_append.1 hb' with h | h
  ·have := b1l.2 b h; omega
  ·have := b2l.2 b h; omega
 intro g3 gr3 n3 fr3
 rw [← cells_flat, ← e4] at gr3
 have row3 : hg g3 (hn g .mk) .mk = _ := (fr3 (hn g .mk) (by omega) (fun e => by have := vb _ e; omega)).trans row2
 have le3 : g.le g3 := ⟨by omega, fun c hc => (fr3 c (by omega) (fun e => by have := vb _ e; omega)).trans (((leL.trans l1).trans l12).2 c hc)⟩
 have o5 := r4.frame fun b hb => fr3 b (by have := (b3l.2 b hb).2; omega) (fun e => by have := vb _ e; have := (b3l.2 b hb).1; omega)
 repeat (first | rw [ko] | rw [kr] | simp -dsimp -implicitDefEqProofs only [go_sem, sQ1, w1, hoo])
 refine nx_keep (mm - 1) (by omega) zsm ⟨i + 1, _, lv, _, c3, le3, by omega, row3, zsm, by simp -dsimp -implicitDefEqProofs only [go_sem, sQ1] <;> rfl, zsm, by omega, gr3, by rw [e5]; exact o5, b3l.wide (by omega) (by omega), fun b hb => ⟨fun hb' => ?_, fun e => ?_⟩⟩
 ·have := b3l.2 b hb
  rcases List.mem_append.1 hb' with h | h
  ·have := bb b h; omega
  ·rw [List.append_nil] at h; exact q3 b h hb
 ·have := b3l.2 b hb
  simp only [blockOf, Option.some.injEq] at e
  omega
def preC (m : LModel) (ts : List Int) : List LCell := if thrB m ts = true then fillI m ts ts.length else []
def preL (m : LModel) (ts : List Int) : List Int := if thrB m ts = true then fillL m ts ts.length else []
theorem implPrefill_ok {F : Nat → Adr} {m : LModel} {f : Adr} {ts : List Int} {g : H2} (hs : smallMod m) (hl : ts.length ≤ 1048576) :
  WC2 Tryz.prog W0 27 [.st (xModel F m), .sl f 1 (ints ts)] g (fun x g' => g.le g' ∧ ∃ w v b b', x = .tp [w, v, .raw (.bool (thrB m ts))] ∧ OT g' b w (.l 2 (rCellS (preC m ts))) ∧ OT g' b' v (.l 1 (ints (preL m ts))) ∧ Bl (hn g .mk) (hn g' .mk) (b ++ b')) := by
 refine begins [[0, 1], [1, 2], [], [1, 2]] Tryz.func27 rfl (rs := [.tmp 4, .tmp 5, .tmp 6]) rfl rfl ?_
 intro wf
 repeat (first | rw [ko] | rw [kr] | simp -dsimp -implicitDefEqProofs only [go_sem, sQ1, hoo])
 refine pw_intro (throughA_ok (F := F) hs hl) ?_
 rintro _ n1 hn1 rfl
 simp only [hn_push] at hn1
 have L1 : ∀ k : OB, g.le ((g.push k).up n1) := fun k => le_up (le_push (H2.le.refl _)) (by simp only [hn_push]; exact hn1)
 cases h1 : thrB m ts
 ·repeat (first | rw [ko] | rw [kr] | simp -dsimp -implicitDefEqProofs only [go_sem, hoo])
  exact ⟨L1 _, _, _, [], [], rfl, by rw [preC, h1]; exact OT.nil, by rw [preL, h1]; exact OT.nil, Bl.nil⟩
 obtain ⟨t1, t2, t3⟩ := thr_t h1
 have ht := model_t t1
 rw [preC, preL, if_pos h1, if_pos h1]
 repeat (first | rw [ko] | rw [kr] | simp -dsimp -implicitDefEqProofs only [go_sem, sQ1, sQ2, hoo])
 refine wz_intro (fillA_tree (F := F) ht (by omega) t3 hs.2.1.1) ?_
 rintro _ g2 ⟨l2, w, v, b, b', rfl, o, o', bl⟩
 have c1 := OT.cell o
 have c2 := OT.cell o'
 repeat (first | rw [ko] | rw [kr] | simp -dsimp -implicitDefEqProofs only [go_sem, sQ1, hoo, c1, c2])
 exact ⟨(L1 _).trans l2, w, v, b, b', rfl, o, o', bl.wide (by simp only [hn_up]; omega) (Nat.le_refl _)⟩
theorem fz_allE {p : Nat → Prop} {g : H2} {x : X} {z : Nat} {E : List (List T)} (h : ∃ f, Fz p p g x (.sl f z E)) : ∃ f, Fz p (fun _ => True) g x (.sl f z E) ∧ AllB p (.sl f z E) := by
 obtain ⟨f, h⟩ := h
 exact ⟨f, h.imp (fun _ h => h) (fun _ _ => trivial), Fz.all (fun _ h => h) (fun _ h => h) h⟩
theorem tp_all2 {p : Nat → Prop} {a b : X} (h : AllB p (.tp [a, b])) : AllB p b := by
 cases h with
 | tp h => exact h b (by simp)
theorem fillB_all {F : Nat → Adr} {m : LModel} {b : Nat} {r s : Int} {f : Adr} {ts : List Int} {g : H2} (mt : Mt (some b) g r s) (ht : ModT m) (hl : (ts.length : Int) ≤ m.context) (ha : allI ts 0 (vocI m - 1) = true) (hsz : m.embed.length ≤ 1048576) :
  PM Tryz.prog W0 79 [.st (xModel F m), .sl f 1 (ints ts), .raw (.pointer (some ⟨b, 0, none⟩))] g (some b) (fillR m ts r ts.length) (fillS m ts s ts.length) fun y => ∃ f1 f2, y = .tp [.sl f1 2 (rCellS (fillI m ts ts.length)), .sl f2 1 (ints (fillL m ts ts.length))] ∧ AllB (fun b => hn g .mk ≤ b) (.sl f2 1 (ints (fillL m ts ts.length))) := by
 refine (PM.of (q := fun _ => True) (Q := fun y => ∃ f1 f2, y = .tp [.sl f1 2 (rCellS (fillI m ts ts.length)), .sl f2 1 (ints (fillL m ts ts.length))] ∧ AllB (fun b => hn g .mk ≤ b) (.sl f2 1 (ints (fillL m ts ts.length)))) mt ?_).mono fun y h => h.1
 have hct := (turns_t ht.turns).1
 have hNp : ∀ c, (some b : Option Nat) = some c → c < hn g .mk + 1 := fun c e => by have := (mt c e).1; omega
 have p0 : (some b : Option Nat) ≠ some (hn g .mk) := fun e => by have := (mt _ e).1; omega
 have q3 : ((some b : Option Nat) == some (hn g .mk)) = false := by simp at p0 ⊢; omega
 refine begins [[0, 1, 2], [1, 2, 3], [1, 2, 3, 8], [1, 2, 3, 8, 9], [1, 2, 3, 8, 9, 10], [1, 2, 3, 8, 9, 10], [1, 2, 3, 8, 10], [1, 2, 3, 8, 10, 11, 12], [1, 2, 3, 8, 10, 12], [8, 9]] Tryz.func79 rfl (rs := [.tmp 6, .tmp 7]) rfl rfl ?_
 intro wf
 repeat (first | rw [ko] | rw [kr] | simp -dsimp -implicitDefEqProofs only [go_sem, sQ1, sQ2, sQ3, hoo])
 refine lz_keep [1, 2, 3] (fun mm e h' => ∃ (i : Nat) (v x : X) (cs : List X), OnM (some b) g h' ∧ hn g .mk + 1 ≤ hn h' .mk ∧ Mt (some b) h' (fillR m ts r i) (fillS m ts s i) ∧ hg h' (hn g .mk) .mk = some ⟨14, [.raw (.int .i64 m.dim), .raw (.int .i64 m.heads), .raw (.int .i64 m.context), .sl (F 3) 2 (rMergeS m.merges), .sl (F 4) 1 (rIntSS m.embed), .sl (F 5) 32 (rLayerS m.layers), .sl (F 6) 1 (ints m.gainEnd), .raw (.int .i64 m.head.width), .sl (F 8) 1 (rIntSS m.head.rows), .sl (F 9) 1 (rIntSS m.head.scales), .raw (.int .i64 m.head.mul), .raw (.int .i64 m.head.shift), .sl (F 12) 1 (rIntSS m.turns.cos), .sl (F 13) 1 (rIntSS m.turns.sin)]⟩ ∧ look e 10 .mk = .raw (.int .i64 (i : Nat)) ∧ look e 8 .mk = v ∧ look e 9 .mk = x ∧ (cellsX x = some [x] ∧ okX x = true ∧ isTpX x = false) ∧ (∃ f2, Fz (fun b => hn g .mk ≤ b) (fun _ => True) h' x (.sl f2 1 (ints (fillL m ts i))) ∧ AllB (fun b => hn g .mk ≤ b) (.sl f2 1 (ints (fillL m ts i)))) ∧ mm + i = ts.length ∧ Own (hn g .mk + 1) h' v 2 (fillI m ts i).length cs ∧ ERow eCell 2 cs (fillI m ts i)) ts.length ?_ ?_
 ·have hne : (hn g .mk == hn g .mk + 1) = false := by simp
  have hne2 : (hn g .mk == hn g .mk + 1 + 1) = false := zne
  have hne3 : (hn g .mk + 1 == hn g .mk + 1 + 1) = false := by simp
  refine ⟨0, _, _, [], OnM.push (OnM.push (OnM.push OnM.refl)), by simp only [hn_push]; omega, mt.push.push.push, by simp -dsimp -implicitDefEqProofs only [go_sem, hoo, hne, hne2], zsm, by simp -dsimp -implicitDefEqProofs only [go_sem] <;> rfl, by simp -dsimp -implicitDefEqProofs only [go_sem] <;> rfl, ⟨rfl, rfl, rfl⟩, ?_, by omega, ⟨rfl, .inr ⟨_, rfl, by omega, by simp only [hn_push]; omega, by simp -dsimp -implicitDefEqProofs only [go_sem, hoo, hne3] <;> rfl⟩⟩, .nil⟩
  exact fz_allE (OwnI.fz (N := hn g .mk) (zs := []) (q := fun b => hn g .mk ≤ b) (ownI_mk rfl (by omega) (by simp only [hn_push]; omega) (by simp -dsimp -implicitDefEqProofs only [go_sem, hoo] <;> rfl)) fun b hb => hb)
 rintro mm e h' hks ⟨i, v, x, cs, onL, nn, mtL, row, ei, ev, ex, cx, ⟨fx, hfx, hax⟩, hm, ow, hc⟩
 simp -dsimp -implicitDefEqProofs only [go_sem, sQ1] at hks
 have c0 := own_cell ow
 have hfl := fillI_len (m := m) (ts := ts) (n := i)
 by_cases q1 : (i : Int) < (ts.length : Int)
 rotate_left
 ·repeat (first | rw [ko] | rw [kr] | simp -dsimp -implicitDefEqProofs only [go_sem, sQ1, hks, ei, ev, ex, q1, c0, cx])
  obtain rfl : i = ts.length := by omega
  obtain ⟨f3, hf3⟩ := erow_fz eleC (p := fun c => hn g .mk ≤ c) ow hc (fun b hb => by omega)
  exact ⟨onL, mtL, _, fz2 hf3 hfx, f3, fx, rfl, hax⟩
 have q2 : i < ts.length := by omega
 have w1 := zwrs i (by omega)
 obtain ⟨k0, k1⟩ := tok_in ht ha q2
 obtain ⟨k, hk⟩ := Int.eq_ofNat_of_zero_le k0
 have hkn : (ts.getD i default).toNat = k := by omega
 have hpast := fillI_t (ts := ts) ht (n := i) (by omega) (fun j hj => (tok_in ht ha hj).2)
 obtain ⟨f3, hf3⟩ := erow_fz eleC (p := fun c => (some b : Option Nat) ≠ some c) ow hc (fun b' hb e => by have := hNp b' e; omega)
 have e4 : fillI m ts (i + 1) = fillI m ts i ++ [cellI m (fillI m ts i) k] := by rw [fillI, hkn]
 have e5 : fillL m ts (i + 1) = logitsI m (fillI m ts i) k := by rw [fillL, hkn]
 have e6 : fillR m ts r (i + 1) = tokRE m (fillI m ts i) k (fillR m ts r i) := by rw [fillR, hkn]
 have e7 : fillS m ts s (i + 1) = tokSE m (fillI m ts i) k (fillS m ts s i) := by rw [fillS, hkn]
 repeat (first | rw [ko] | rw [kr] | simp -dsimp -implicitDefEqProofs only [go_sem, sQ1, hks, ei, ev, ex, q1])
 refine dt_intro (.op 0 [] (.op 1 [] (.op 2 [] (.op 3 [] (.op 4 [] (.op 5 [] (.op 6 [] (.alt (.op 7 [] (.op 8 [] (.op 9 [] (.op 10 [] (.op 11 [0, 5] (.op 12 [] (.op 13 [] .nil))))))) (.op 11 [0, 5] (.op 7 [] (.op 8 [] (.op 9 [] (.op 10 [] (.op 12 [] (.op 13 [] .nil))))))))))))))) (by kernel_rfl) ?_
 repeat (first | rw [ko] | rw [kr] | simp -dsimp -implicitDefEqProofs only [go_sem, sQ1, q2, row, hk])
 rw [run_alt]
 refine ⟨?_, ?_⟩
 ·repeat (first | rw [ko] | rw [kr] | simp -dsimp -implicitDefEqProofs only [go_sem, sQ1])
  refine pm_intro (PM.lend (.cons (fz_st (xs := xModel F m) rfl) (.cons hf3 (.cons .raw (.cons .raw .nil)))) mtL (tokenB_ok (F := F) (past := fillI m ts i) (t := k) mtL.bar ht hpast (by omega) (by omega) hsz) (fun y hy => by have := hy.2; rwa [hn_barM] at this)) ?_
  rintro _ n1 hn1 ⟨⟨F', f4, rfl⟩, hAll⟩
  have q6 : (hn g .mk == n1) = false := zne
  repeat (first | rw [ko] | rw [kr] | simp -dsimp -implicitDefEqProofs only [go_sem, sQ1, sQ2, sQ3, sQ4, row, hg_gM q3, hoo, q6])
  have onS : OnM (some b) h' _ := OnM.put (c := n1) (k := ⟨2, [.sl (F' 0) 1 (rPartSS (cellI m (fillI m ts i) k).keys), .sl (F' 1) 1 (rPartSS (cellI m (fillI m ts i) k).values)]⟩) (OnM.push (k := ⟨2, [.raw (.slice none 0 0), .raw (.slice none 0 0)]⟩) (OnM.up (n := n1) (OnM.gM (r := tokRE m (fillI m ts i) k (fillR m ts r i)) (s := tokSE m (fillI m ts i) k (fillS m ts s i)) OnM.refl) (by rw [hn_gM]; exact hn1))) hn1
  have mtS : Mt (some b) _ _ _ := Mt.put (c := n1) (k := ⟨2, [.sl (F' 0) 1 (rPartSS (cellI m (fillI m ts i) k).keys), .sl (F' 1) 1 (rPartSS (cellI m (fillI m ts i) k).values)]⟩) (Mt.push (k := ⟨2, [.raw (.slice none 0 0), .raw (.slice none 0 0)]⟩) (Mt.up (n := n1) (Mt.set (r' := tokRE m (fillI m ts i) k (fillR m ts r i)) (s' := tokSE m (fillI m ts i) k (fillS m ts s i)) mtL) (by rw [hn_gM]; exact hn1))) (mtL.ne hn1)
  refine appE (P := Tryz.prog) (a := cellI m (fillI m ts i) k) eleC Go.Ai.ty_el47 Go.Ai.ty_zr37 rfl Go.Ai.ty_cl47 (by omega) (Own.on ow onS mtL hNp) hc (by simp only [hn_up, hn_push, hn_set]; omega) (by rw [hfl]; omega) ?_
  intro v4 g4 cs4 ow4 hc4 nn4 on4
  rw [← e4] at ow4 hc4
  have row4 : hg g4 (hn g .mk) .mk = _ := (on4 (hn g .mk) (by omega)).trans ((onS.2 (hn g .mk) (by omega) p0).trans row)
  have c4 := own_cell ow4
  repeat (first | rw [ko] | rw [kr] | simp -dsimp -implicitDefEqProofs only [go_sem, sQ1, w1])
  exact nx_keep (mm - 1) (by omega) zsm ⟨i + 1, v4, _, cs4, OnM.below (onL.trans onS) (by omega) nn4 on4, nn4, by rw [e6, e7]; exact Mt.below mtS hNp nn4 on4, row4, zsm, zsm, by simp -dsimp -implicitDefEqProofs only [go_sem, sQ1] <;> rfl, ⟨rfl, rfl, rfl⟩, ⟨f4, by rw [e5]; exact fz_self rfl, by rw [e5]; exact (tp_all2 hAll).imp fun c hc => Nat.le_trans (by first | omega | (rw [hn_barM]; first | omega | (simp only [hn_push]; omega))) hc⟩, by omega, ow4, hc4⟩
 ·have q5 : (hn g .mk == hn h' .mk) = false := zne
  repeat (first | rw [ko] | rw [kr] | simp -dsimp -implicitDefEqProofs only [go_sem, sQ1])
  try (rw [kq]; refine ⟨by simp -dsimp -implicitDefEqProofs only [go_sem, sQ1, sQ2, sQ3, sQ4, sQ5, sQ6, sQ7, hks, ei, ev, ex, q1, q2, row, hk, q5], ?_⟩)
  try (rw [kq]; refine ⟨by simp -dsimp -implicitDefEqProofs only [go_sem, sQ1, sQ2, sQ3, sQ4, sQ5, sQ6, sQ7, hks, ei, ev, ex, q1, q2, row, hk, q5], ?_⟩)
  repeat (first | rw [ko] | rw [kr] | simp -dsimp -implicitDefEqProofs only [go_sem, row, q5])
  have mtP : Mt (some b) (h'.push ⟨2, [.raw (.slice none 0 0), .raw (.slice none 0 0)]⟩) _ _ := mtL.push
  obtain ⟨f3p, hf3p⟩ := erow_fz eleC (p := fun c => (some b : Option Nat) ≠ some c) (Own.keep ow (le_push (k := ⟨2, [.raw (.slice none 0 0), .raw (.slice none 0 0)]⟩) (H2.le.refl h'))) hc (fun b' hb e => by have := hNp b' e; omega)
  refine pm_intro (PM.lend (.cons (fz_st (xs := xModel F m) rfl) (.cons hf3p (.cons .raw (.cons .raw .nil)))) mtP (tokenB_ok (F := F) (past := fillI m ts i) (t := k) mtP.bar ht hpast (by omega) (by omega) hsz) (fun y hy => by have := hy.2; rwa [hn_barM] at this)) ?_
  rintro _ n1 hn1 ⟨⟨F', f4, rfl⟩, hAll⟩
  rw [hn_push] at hn1
  have q4 : ((some b : Option Nat) == some (hn h' .mk)) = false := mtL.ne (Nat.le_refl _)
  try (rw [kq]; refine ⟨zsm, ?_⟩)
  repeat (first | rw [ko] | rw [kr] | simp -dsimp -implicitDefEqProofs only [go_sem, sQ1, sQ2, sQ3, sQ4, hg_gM q4, hoo])
  have onS : OnM (some b) h' _ := OnM.put (c := hn h' .mk) (k := ⟨2, [.sl (F' 0) 1 (rPartSS (cellI m (fillI m ts i) k).keys), .sl (F' 1) 1 (rPartSS (cellI m (fillI m ts i) k).values)]⟩) (OnM.up (n := n1) (OnM.gM (r := tokRE m (fillI m ts i) k (fillR m ts r i)) (s := tokSE m (fillI m ts i) k (fillS m ts s i)) (OnM.push (k := ⟨2, [.raw (.slice none 0 0), .raw (.slice none 0 0)]⟩) OnM.refl)) (by rw [hn_gM, hn_push]; exact hn1)) (Nat.le_refl _)
  have mtS : Mt (some b) _ _ _ := Mt.put (c := hn h' .mk) (k := ⟨2, [.sl (F' 0) 1 (rPartSS (cellI m (fillI m ts i) k).keys), .sl (F' 1) 1 (rPartSS (cellI m (fillI m ts i) k).values)]⟩) (Mt.up (n := n1) (Mt.set (r' := tokRE m (fillI m ts i) k (fillR m ts r i)) (s' := tokSE m (fillI m ts i) k (fillS m ts s i)) mtP) (by rw [hn_gM, hn_push]; exact hn1)) q4
  refine appE (P := Tryz.prog) (a := cellI m (fillI m ts i) k) eleC Go.Ai.ty_el47 Go.Ai.ty_zr37 rfl Go.Ai.ty_cl47 (by omega) (Own.on ow onS mtL hNp) hc (by simp only [hn_up, hn_set]; omega) (by rw [hfl]; omega) ?_
  intro v4 g4 cs4 ow4 hc4 nn4 on4
  rw [← e4] at ow4 hc4
  have row4 : hg g4 (hn g .mk) .mk = _ := (on4 (hn g .mk) (by omega)).trans ((onS.2 (hn g .mk) (by omega) p0).trans row)
  have c4 := own_cell ow4
  repeat (first | rw [ko] | rw [kr] | simp -dsimp -implicitDefEqProofs only [go_sem, sQ1, w1])
  exact nx_keep (mm - 1) (by omega) zsm ⟨i + 1, v4, _, cs4, OnM.below (onL.trans onS) (by omega) nn4 on4, nn4, by rw [e6, e7]; exact Mt.below mtS hNp nn4 on4, row4, zsm, zsm, by simp -dsimp -implicitDefEqProofs only [go_sem, sQ1] <;> rfl, ⟨rfl, rfl, rfl⟩, ⟨f4, by rw [e5]; exact fz_self rfl, by rw [e5]; exact (tp_all2 hAll).imp fun c hc => Nat.le_trans (by first | omega | (rw [hn_barM]; first | omega | (simp only [hn_push]; omega))) hc⟩, by omega, ow4, hc4⟩
theorem specPrefill_ok {F : Nat → Adr} {m : LModel} {f : Adr} {ts : List Int} {g : H2} (hs : smallMod m) (hl : ts.length ≤ 1048576) (hz : szCellS (preC m ts) ≤ 1048576) :
  PW Tryz.prog W0 25 [.st (xModel F m), .sl f 1 (ints ts)] g (fun x => (∃ F1 F2, x = .tp [.sl F1 2 (rCellS (preC m ts)), .sl F2 1 (ints (preL m ts)), .raw (.bool (thrB m ts))]) ∧ AllB (fun b => hn g .mk ≤ b) x) := by
 refine (PW.of (q := fun b => hn g .mk ≤ b) (Q := fun x => ∃ F1 F2, x = .tp [.sl F1 2 (rCellS (preC m ts)), .sl F2 1 (ints (preL m ts)), .raw (.bool (thrB m ts))]) ?_).mono fun y ⟨h1, h2⟩ => ⟨h1, h2.imp fun b hb => hb.elim id id⟩
 refine begins [[0, 1], [1, 2], [], [1, 2], [7, 8]] Tryz.func25 rfl (rs := [.tmp 4, .tmp 5, .tmp 6]) rfl rfl ?_
 intro wf
 repeat (first | rw [ko] | rw [kr] | simp -dsimp -implicitDefEqProofs only [go_sem, sQ1, hoo])
 refine pw_intro (throughB_ok (F := F) hs hl) ?_
 rintro _ n1 hn1 rfl
 simp only [hn_push] at hn1
 have L1 : ∀ k : OB, g.le ((g.push k).up n1) := fun k => le_up (le_push (H2.le.refl _)) (by simp only [hn_push]; exact hn1)
 have hne : (hn g .mk == n1) = false := zne
 cases h1 : thrB m ts
 ·repeat (first | rw [ko] | rw [kr] | simp -dsimp -implicitDefEqProofs only [go_sem, sQ1, sQ2, sQ3, hoo])
  have z1 := Fz.own (p := fun b => hn g .mk ≤ b) (q := fun b => hn g .mk ≤ b) (g := (((g.push ⟨14, xModel F m⟩).up n1).push ⟨2, []⟩).push ⟨1, []⟩) (b := n1) (n := 0) (z := 2) (cs := []) (cs' := []) (ts := []) (by show hg _ _ .mk = _; simp -dsimp -implicitDefEqProofs only [go_sem, hoo] <;> rfl) (by omega) rfl rfl (fun i hi => absurd hi (Nat.not_lt_zero _)) rfl
  obtain ⟨F2, z2⟩ := OwnI.fz (p := fun b => hn g .mk ≤ b) (q := fun b => hn g .mk ≤ b) (ownI_mk (N := n1) (g := (((g.push ⟨14, xModel F m⟩).up n1).push ⟨2, []⟩).push ⟨1, []⟩) (b := n1 + 1) (zs := []) rfl (by omega) (by simp only [hn_push, hn_up]; omega) (by simp -dsimp -implicitDefEqProofs only [go_sem, hoo] <;> rfl)) (fun b hb => by omega)
  exact ⟨le_push (le_push (L1 _)), _, fz3 z1 z2 .raw, _, F2, by rw [preC, preL, h1]; rfl⟩
 obtain ⟨t1, t2, t3⟩ := thr_t h1
 have ht := model_t t1
 rw [preC, if_pos h1] at hz
 rw [preC, preL, if_pos h1, if_pos h1]
 repeat (first | rw [ko] | rw [kr] | simp -dsimp -implicitDefEqProofs only [go_sem, sQ1, hoo])
 have mtG : ∀ k : OB, Mt (some n1) (((g.push k).up n1).push (metO 0 0)) 0 0 := fun k b' e => by cases e; exact ⟨by simp only [hn_push, hn_up]; omega, by simp -dsimp -implicitDefEqProofs only [go_sem, hoo]⟩
 refine pm_intro (fillB_all (F := F) (b := n1) (r := 0) (s := 0) (mtG _) ht (by omega) t3 hs.2.1.1) ?_
 rintro _ n2 hn2 ⟨f1, f2, rfl, hAll⟩
 simp only [hn_push, hn_up] at hn2
 repeat (first | rw [ko] | rw [kr] | simp -dsimp -implicitDefEqProofs only [go_sem, sQ1, hoo])
 refine wz_intro (copyCells_new hz) ?_
 rintro w g2 ⟨l2, bs, o, bl⟩
 have c1 := OT.cell o
 have nn2 := l2.1
 simp only [hn_up] at nn2
 have LA : ∀ k : OB, g.le ((gM (((g.push k).up n1).push (metO 0 0)) (some n1) (fillR m ts 0 ts.length) (fillS m ts 0 ts.length)).up n2) := fun k => le_up (le_set (le_push (L1 k)) (by omega)) (by rw [hn_gM]; simp only [hn_push, hn_up]; omega)
 repeat (first | rw [ko] | rw [kr] | simp -dsimp -implicitDefEqProofs only [go_sem, sQ1, hoo, c1])
 obtain ⟨F1, z1⟩ := OT.fz (p := fun b => hn g .mk ≤ b) (q := fun b => hn g .mk ≤ b) o (fun b hb => by have := (bl.2 b hb).1; rw [hn_up] at this; omega)
 exact ⟨(LA _).trans l2, _, fz3 z1 (.sl (hAll.imp fun c hc => Nat.le_trans (by simp only [hn_push, hn_up]; omega) hc)) .raw, F1, f2, rfl⟩
theorem sumN_bd {α : Type} {f : α → Nat} {B : Nat} : ∀ {l : List α}, (∀ x ∈ l, f x ≤ B) → sumN f l ≤ l.length * B
 | [], _ => Nat.zero_le _
 | a :: l, h => by
  have h1 := h a (by simp)
  have h2 := sumN_bd (l := l) (fun x hx => h x (by simp [hx]))
  rw [sumN, List.length_cons, Nat.add_mul, Nat.one_mul]
  omega
theorem getD_of_mem {α : Type} [Inhabited α] {l : List α} {x : α} (h : x ∈ l) : ∃ i, i < l.length ∧ l.getD i default = x := by
 obtain ⟨i, hi, e⟩ := List.getElem_of_mem h
 exact ⟨i, hi, by rw [List.getD_eq_getElem?_getD, List.getElem?_eq_getElem hi]; exact e⟩
theorem partS_sz {m : LModel} {l : List LPart} (ht : ModT m) (h : partsB l m.heads (Int.tdiv m.dim m.heads) = true) : szPartS l ≤ 18 ∧ fitPartS l := by
 obtain ⟨hl, hv⟩ := parts_t ht h
 have hh := ht.heads
 have h8 : ∀ x ∈ l, szPart x ≤ 8 := fun x hx => by
  obtain ⟨i, hi, rfl⟩ := getD_of_mem hx
  have := (part_t (hv i hi).1).2.1
  unfold szPart
  omega
 have := sumN_bd h8
 refine ⟨by unfold szPartS; omega, by omega, fun x hx => by have := h8 x hx; unfold szPart at this; unfold fitPart; omega⟩
theorem partSS_sz {m : LModel} {l : List (List LPart)} (ht : ModT m) (h : PartsM m l) (hl : l.length ≤ 2) : szPartSS l ≤ 38 ∧ fitPartSS l := by
 have h8 : ∀ x ∈ l, szPartS x ≤ 18 := fun x hx => by
  obtain ⟨i, hi, rfl⟩ := getD_of_mem hx
  exact (partS_sz ht (h i hi)).1
 have := sumN_bd h8
 refine ⟨by unfold szPartSS; omega, by omega, fun x hx => by
  obtain ⟨i, hi, rfl⟩ := getD_of_mem hx
  exact (partS_sz ht (h i hi)).2⟩
theorem cell_sz {m : LModel} {c : LCell} (ht : ModT m) (h : CellT m c) : szCell c ≤ 76 ∧ fitCell c := by
 obtain ⟨h1, h2, h3, h4⟩ := h
 have hn := ht.nl
 have a := partSS_sz ht h3 (by omega)
 have b := partSS_sz ht h4 (by omega)
 exact ⟨by unfold szCell; omega, a.2, b.2⟩
theorem pre_sz {m : LModel} {ts : List Int} : szCellS (preC m ts) ≤ 2000 ∧ fitCellS (preC m ts) ∧ (preL m ts).length ≤ 300 := by
 cases h1 : thrB m ts
 ·have e1 : preC m ts = [] := by rw [preC, h1]; rfl
  have e2 : preL m ts = [] := by rw [preL, h1]; rfl
  rw [e1, e2]
  exact ⟨by decide, ⟨by decide, fun x hx => by cases hx⟩, by decide⟩
 rw [preC, preL, if_pos h1, if_pos h1]
 obtain ⟨t1, t2, t3⟩ := thr_t h1
 have ht := model_t t1
 have hct := (turns_t ht.turns).1
 have hp := fillI_t (ts := ts) ht (n := ts.length) (Nat.le_refl _) (fun j hj => (tok_in ht t3 hj).2)
 have := sumN_bd (f := szCell) (fun x hx => (cell_sz ht (hp x hx)).1)
 have hfl := fillI_len (m := m) (ts := ts) (n := ts.length)
 refine ⟨by unfold szCellS; omega, ⟨by omega, fun x hx => (cell_sz ht (hp x hx)).2⟩, ?_⟩
 obtain ⟨n, hn⟩ : ∃ n, ts.length = n + 1 := ⟨ts.length - 1, by omega⟩
 rw [hn, fillL]
 exact (logits_len ht).2.1
end Go.Bi
end
section
set_option maxRecDepth 20000
set_option maxHeartbeats 8000000
namespace Go.Bi
open Go.Proofs
open Go.Ai (wrap_i64 Heap)
variable {W0 : World} {P : Program}
theorem markModel_treeJ {N : Nat} {c : LModel} {h : H2} {k0 : Int} {bs : List Nat} {ys : List X} (o : OTs h bs ys (eModel c)) (bl : Bl N (hn h .mk) bs) (hk : 0 ≤ k0 ∧ k0 + 64 * szModel c ≤ 4611686018427387904) : WC2 Tryz.prog W0 19 [.st ys, .raw (.int .i64 k0)] h (fun r h' => ∃ (k1 : Int) (c' : LModel), r = .raw (.int .i64 k1) ∧ k0 ≤ k1 ∧ k1 ≤ k0 + 64 * szModel c ∧ OTs h' bs ys (eModel c') ∧ (True) ∧ hn h .mk ≤ hn h' .mk ∧ ∀ b, b < hn h .mk → b ∉ bs → h'.get b = h.get b) := by
 obtain ⟨b3, s3, b4, s4, b5, s5, b6, s6, b8, s8, b9, s9, b12, s12, b13, s13, rfl, rfl, o3, o4, o5, o6, o8, o9, o12, o13⟩ := invModel o
 refine (markModel_ok (c := c) o3 o4 o5 o6 o8 o9 o12 o13 bl hk).mono ?_
 rintro r h' ⟨k1, z3, z4, z5, z6, z8, z9, z12, z13, h1, h2, h3, ⟨p3, p4, p5, p6, p8, p9, p12, p13⟩, h4, h5, h6⟩
 exact ⟨k1, { c with merges := z3, embed := z4, layers := z5, gainEnd := z6, head := { c.head with rows := z8, scales := z9 }, turns := { c.turns with cos := z12, sin := z13 } }, h1, h2, h3, outModel (c := { c with merges := z3, embed := z4, layers := z5, gainEnd := z6, head := { c.head with rows := z8, scales := z9 }, turns := { c.turns with cos := z12, sin := z13 } }) p3 p4 p5 p6 p8 p9 p12 p13, h4, h5, h6⟩
end Go.Bi
end
section
set_option maxRecDepth 20000
namespace Go.Bi
open Go.Proofs
open Go.Ai (wrap_i64 Heap)
variable {W0 : World} {P : Program}
def RRow2 (E E' : T) (vs : List Value) (x : X) (g : H2) (bs : List Nat) : Prop := ∃ w v b b', bs = b ++ b' ∧ x = .tp (w :: v :: vs.map .raw) ∧ OT g b w E ∧ OT g b' v E'
theorem lend_row2 {g : H2} {f : FuncId} {xs ys : List X} {E E' : T} {vs : List Value} (hl : Lents g xs ys)
  (c : WC2 P W0 f ys g.bare fun x g' => g.bare.le g' ∧ ∃ bs, RRow2 E E' vs x g' bs ∧ Bl (hn g .mk) (hn g' .mk) bs) :
  WC2 P W0 f xs g fun x g' => g.le g' ∧ ∃ bs, RRow2 E E' vs x g' bs ∧ Bl (hn g .mk) (hn g' .mk) bs := by
 refine WC2.lendTree hl c ?_ ?_ ?_
 ·rintro x g' g2 bs ⟨w, v, b, b', rfl, rfl, o, o'⟩ hb
  exact ⟨w, v, b, b', rfl, rfl, o.frame fun c h => hb c (by simp [h]), o'.frame fun c h => hb c (by simp [h])⟩
 ·rintro x g' bs ⟨w, v, b, b', rfl, rfl, o, o'⟩ c hc
  rcases List.mem_append.1 hc with h | h
  ·exact o.rows c h
  ·exact o'.rows c h
 ·rintro x g' bs ⟨w, v, b, b', rfl, rfl, o, o'⟩ h g2
  obtain ⟨u, rfl⟩ := o.israw
  obtain ⟨u', rfl⟩ := o'.israw
  refine .tp fun x hx => ?_
  rcases List.mem_cons.1 hx with rfl | hx
  ·exact .raw
  rcases List.mem_cons.1 hx with rfl | hx
  ·exact .raw
  ·obtain ⟨v, _, rfl⟩ := List.mem_map.1 hx; exact .raw
theorem implPrefill_tree {m : LModel} {ts : List Int} {g : H2} {bs bs' : List Nat} {ys : List X} {y : X} (o : OTs g bs ys (eModel m)) (o' : OT g bs' y (.l 1 (ints ts))) (hs : smallMod m) (hl : ts.length ≤ 1048576) (hz : szCellS (preC m ts) ≤ 1048576) :
  WC2 Tryz.prog W0 27 [.st ys, y] g (fun x g' => g.le g' ∧ ∃ s0 b0 s1 b1, x = .tp [s0, s1, .raw (.bool (thrB m ts))] ∧ OT g' b0 s0 (.l 2 (rCellS (preC m ts))) ∧ OT g' b1 s1 (.l 1 (ints (preL m ts))) ∧ Bl (hn g .mk) (hn g' .mk) b0 ∧ Bl (hn g .mk) (hn g' .mk) b1 ∧ ∀ x ∈ b0, x ∉ b1) := by
 obtain ⟨F, hF⟩ := o.lent
 obtain ⟨f, hf⟩ := o'.lent
 refine (lend_row2 (E := .l 2 (rCellS (preC m ts))) (E' := .l 1 (ints (preL m ts))) (vs := [.bool (thrB m ts)]) (.cons hF (.cons hf .nil)) ((implPrefill_ok (F := F) (f := f) hs hl).mono ?_)).mono ?_
 ·rintro x g' ⟨h1, w, v, b, b', rfl, o1, o2, bl⟩
  exact ⟨h1, _, ⟨w, v, b, b', rfl, rfl, o1, o2⟩, bl⟩
 ·rintro x g' ⟨h1, _, ⟨w, v, b, b', rfl, rfl, o1, o2⟩, bl⟩
  exact ⟨h1, w, b, v, b', rfl, o1, o2, bl.left, bl.right, bl.disj⟩
theorem specPrefill_pw {m : LModel} {ts : List Int} {g : H2} {bs bs' : List Nat} {ys : List X} {y : X} (o : OTs g bs ys (eModel m)) (o' : OT g bs' y (.l 1 (ints ts))) (hs : smallMod m) (hl : ts.length ≤ 1048576) (hz : szCellS (preC m ts) ≤ 1048576) :
  PW Tryz.prog W0 25 [.st ys, y] g (fun x => ∃ F1 F2, x = .tp [.sl F1 2 (rCellS (preC m ts)), .sl F2 1 (ints (preL m ts)), .raw (.bool (thrB m ts))]) := by
 obtain ⟨F, hF⟩ := o.lent
 obtain ⟨f, hf⟩ := o'.lent
 exact (PW.lend (.cons hF (.cons hf .nil)) (specPrefill_ok (F := F) (f := f) hs hl hz) (fun y h => h.2)).mono fun y h => h.1
theorem eqIntS_mix {g : H2} {b : List Nat} {x : X} {f : Adr} {zs : List Int} (o : OT g b x (.l 1 (ints zs))) (hn0 : zs.length ≤ 9223372036854775807) : PW Tryz.prog W0 16 [x, .sl f 1 (ints zs)] g (fun y => y = .raw (.bool true)) := by
 obtain ⟨f', hf'⟩ := o.lent
 exact PW.lend (.cons hf' (.cons (fz_self rfl) .nil)) (eqIntS_pw hn0) (fun y h => by subst h; exact .raw)
theorem eqCellS_mix {g : H2} {b : List Nat} {x : X} {f : Adr} {zs : List LCell} (o : OT g b x (.l 2 (rCellS zs))) (hf : fitCellS zs) : PW Tryz.prog W0 18 [x, .sl f 2 (rCellS zs)] g (fun y => y = .raw (.bool true)) := by
 obtain ⟨f', hf'⟩ := o.lent
 exact PW.lend (.cons hf' (.cons (fz_self rfl) .nil)) (eqCellS_pw hf) (fun y h => by subst h; exact .raw)
theorem heldCellS_tree {g : H2} {b : List Nat} {x : X} {zs : List LCell} {k k' : Int} (o : OT g b x (.l 2 (rCellS zs))) (hd : HhCellS W0 zs k k') : PW Tryz.prog W0 28 [x, .raw (.int .i64 k)] g (fun y => y = .raw (.int .i64 k')) := by
 obtain ⟨f, hf⟩ := o.lent
 exact PW.lend (.cons hf (.cons lent_raw .nil)) (hd f _) (fun y h => by subst h; exact .raw)
end Go.Bi
end
section
set_option maxRecDepth 20000
set_option maxHeartbeats 8000000
namespace Go.Bi
open Go.Proofs
open Go.Ai (wrap_i64)
variable {W0 : World}
theorem FnExactPrefill_ok {F0 : Nat → Adr} {m : LModel} {f1 : Adr} {p : List Int} {h : H2} (hf0 : fitModel m) (hf1 : p.length ≤ 9223372036854775807)  : WC2 Tryz.prog W0 4 [.st (xModel F0 m), .sl f1 1 (ints p)] h (fun v h' => v = .raw (.bool true)) := by
 refine begins [[0, 1], [1, 2], [], [1, 2], [1, 2, 5], [1, 2, 5], [], [1, 2], [1, 2, 6, 7, 8], [1, 2, 6, 7, 8, 9], [1, 2, 6, 7, 8, 9, 10], [1, 2, 6, 7, 8, 9, 10, 11, 12, 13], [], [1, 2, 6, 7, 8, 9, 10, 11, 12, 13], [], [1, 2, 6, 7, 8, 9, 10, 11, 12, 13], [], [1, 2, 6, 7, 8, 9, 10, 11, 12, 13], [1, 2, 6, 7, 8, 9, 10, 11, 12, 13, 14], [1, 2, 6, 7, 8, 10, 11, 12, 13, 14], [1, 2, 6, 7, 8, 11, 12, 13, 14], [], [1, 2, 6, 7, 8, 11, 12], [1, 2, 6, 7, 8, 11, 12, 15], [1, 2, 6, 7, 8, 11, 12, 15], [1, 2, 6, 7, 8, 11, 12, 15], [1, 2, 6, 7, 8, 11, 12, 15, 16], [1, 2, 6, 7, 8, 11, 12, 15, 16], [], [1, 2, 6, 7, 8, 11, 12, 15, 16], [1, 2, 6, 7, 8, 11, 12, 15, 16], [], [1, 2, 6, 7, 8, 11, 12, 15, 16], [], [1, 2, 6, 7, 8, 11, 12, 15], [6, 7, 8, 11, 12, 15, 17, 18, 19], [], [11, 12, 15], [11, 12, 15, 16], [12, 15, 16], [], [12, 15, 16], [15, 16], [], [15, 16], [], []] Tryz.func4 rfl (rs := [.tmp 4]) rfl rfl ?_
 intro wf
 repeat (first | rw [ko] | rw [kr] | simp -dsimp -implicitDefEqProofs only [go_sem])
 refine gz_dec (fun q1 => ?_) (fun q1 => ?_)
 ·repeat (first | rw [ko] | rw [kr] | simp -dsimp -implicitDefEqProofs only [go_sem])
  rfl
 repeat (first | rw [ko] | rw [kr] | simp -dsimp -implicitDefEqProofs only [go_sem, sQ1, hoo])
 refine pw_intro (szModel_ok hf0 ⟨by omega, by omega⟩) ?_
 rintro _ n2 hn2 ⟨k2, rfl, hk2⟩
 have hm2 := hn2
 try simp only [hn_push] at hm2
 repeat (first | rw [ko] | rw [kr] | simp -dsimp -implicitDefEqProofs only [go_sem, sQ1, hoo])
 refine gz_dec (fun q3 => ?_) (fun q3 => ?_)
 ·repeat (first | rw [ko] | rw [kr] | simp -dsimp -implicitDefEqProofs only [go_sem])
  rfl
 have hsz_m : szModel m ≤ 1048576 := by omega
 have hsm := smallMod_of hsz_m
 obtain ⟨hcs, hfc, hpl⟩ := pre_sz (m := m) (ts := p)
 repeat (first | rw [ko] | rw [kr] | simp -dsimp -implicitDefEqProofs only [go_sem, sQ1, hoo])
 refine wz_intro (toModel_ok (by omega)) ?_
 rintro _ g4 ⟨l4, ys4, b4, rfl, o4, bl4⟩
 try simp only [hn_up] at bl4
 have nn4 := l4.n
 try simp only [hn_up] at nn4
 have LL4 : h.le g4 := H2.le.trans zale l4
 have ln4 := LL4.n
 have row0 := l4.2 (hn h .mk) zau
 simp -dsimp -implicitDefEqProofs only [go_sem, hoo] at row0
 obtain ⟨s4_3, s4_4, s4_5, s4_6, s4_8, s4_9, s4_12, s4_13, rfl, ce4⟩ := shModel o4
 repeat (first | rw [ko] | rw [kr] | simp -dsimp -implicitDefEqProofs only [go_sem, sQ1, hoo])
 refine wz_intro (toIntS_new (by omega)) ?_
 rintro s5 g5 ⟨l5, b5, o5, bl5⟩
 try simp only [hn_push, hn_up] at bl5
 have nn5 := l5.n
 try simp only [hn_push, hn_up] at nn5
 have LL5 : g4.le g5 := H2.le.trans zale l5
 have ln5 := LL5.n
 replace o4 := o4.keep LL5 (bl4.wide (Nat.le_refl _) (by omega))
 replace row0 := (LL5.2 (hn h .mk) (by omega)).trans row0
 have ce5 := OT.cell o5
 repeat (first | rw [ko] | rw [kr] | simp -dsimp -implicitDefEqProofs only [go_sem, hoo])
 refine pw_intro (specPrefill_pw (o4.keep zale (bl4.wide (Nat.le_refl _) (by omega))) (o5.keep zale (bl5.wide (Nat.le_refl _) (by omega))) hsm (by omega) (by omega)) ?_
 rintro _ n6 hn6 ⟨F6r0, F6r1, rfl⟩
 have hm6 := hn6
 try simp only [hn_push, hn_up] at hm6
 repeat (first | rw [ko] | rw [kr] | simp -dsimp -implicitDefEqProofs only [go_sem, sQ1, row0, hoo])
 refine wz_intro (toModel_ok (by omega)) ?_
 rintro _ g7 ⟨l7, ys7, b7, rfl, o7, bl7⟩
 try simp only [hn_up] at bl7
 have nn7 := l7.n
 try simp only [hn_up] at nn7
 have LL7 : g5.le g7 := H2.le.trans zale l7
 have ln7 := LL7.n
 replace row0 := (LL7.2 (hn h .mk) (by omega)).trans row0
 obtain ⟨s7_3, s7_4, s7_5, s7_6, s7_8, s7_9, s7_12, s7_13, rfl, ce7⟩ := shModel o7
 have ne8 : ((hn h .mk) == (hn g7 .mk)) = false := zne
 have nf8 : ((hn g7 .mk) == (hn h .mk)) = false := zne
 repeat (first | rw [ko] | rw [kr] | simp -dsimp -implicitDefEqProofs only [go_sem, sQ1, sQ2, ce7, hoo])
 refine wz_intro (toIntS_new (by omega)) ?_
 rintro s9 g9 ⟨l9, b9, o9, bl9⟩
 try simp only [hn_push] at bl9
 have nn9 := l9.n
 try simp only [hn_push] at nn9
 have LL9 : g7.le g9 := H2.le.trans zale l9
 have ln9 := LL9.n
 replace o7 := o7.keep LL9 (bl7.wide (Nat.le_refl _) (by omega))
 replace row0 := (LL9.2 (hn h .mk) (by omega)).trans row0
 have row1 := l9.2 (hn g7 .mk) zau
 simp -dsimp -implicitDefEqProofs only [go_sem, hoo] at row1
 have ce9 := OT.cell o9
 repeat (first | rw [ko] | rw [kr] | simp -dsimp -implicitDefEqProofs only [go_sem, sQ1, row1, hoo])
 refine wz_intro (implPrefill_tree (o7.keep zale (bl7.wide (Nat.le_refl _) (by omega))) (o9.keep zale (bl9.wide (Nat.le_refl _) (by omega))) hsm (by omega) (by omega)) ?_
 rintro _ g10 ⟨l10, s10r0, b10r0, s10r1, b10r1, rfl, o10r0, o10r1, bl10r0, bl10r1, dj10⟩
 try simp only [hn_push, hn_up] at bl10r0 bl10r1
 have nn10 := l10.n
 try simp only [hn_push, hn_up] at nn10
 have LL10 : g9.le g10 := H2.le.trans zale l10
 have ln10 := LL10.n
 replace o7 := o7.keep LL10 (bl7.wide (Nat.le_refl _) (by omega))
 replace o9 := o9.keep LL10 (bl9.wide (Nat.le_refl _) (by omega))
 replace row0 := (LL10.2 (hn h .mk) (by omega)).trans row0
 replace row1 := (LL10.2 (hn g7 .mk) (by omega)).trans row1
 have ce10r0 := OT.cell o10r0
 have ce10r1 := OT.cell o10r1
 repeat (first | rw [ko] | rw [kr] | simp -dsimp -implicitDefEqProofs only [go_sem, sQ1, hoo])
 refine pw_intro (eqCellS_mix (o10r0.keep zale (bl10r0.wide (Nat.le_refl _) (by omega))) hfc) ?_
 rintro _ n11 hn11 rfl
 have hm11 := hn11
 try simp only [hn_push, hn_up] at hm11
 repeat (first | rw [ko] | rw [kr] | simp -dsimp -implicitDefEqProofs only [go_sem, sQ1, hoo])
 refine pw_intro (eqIntS_mix (o10r1.keep zale (bl10r1.wide (Nat.le_refl _) (by omega))) (by omega)) ?_
 rintro _ n12 hn12 rfl
 have hm12 := hn12
 try simp only [hn_up] at hm12
 repeat (first | rw [ko] | rw [kr] | simp -dsimp -implicitDefEqProofs only [go_sem, sQ1, hoo])
 refine dq_intro [(0, []), (1, []), (2, [0]), (3, []), (4, [])] (by kernel_rfl) ?_
 repeat (first | rw [ko] | rw [kr] | simp -dsimp -implicitDefEqProofs only [go_sem, sQ1, row0, row1, hoo])
 refine wz_intro (toModel_ok (by omega)) ?_
 rintro _ g13 ⟨l13, ys13, b13, rfl, o13, bl13⟩
 try simp only [hn_up] at bl13
 have nn13 := l13.n
 try simp only [hn_up] at nn13
 have LL13 : g10.le g13 := H2.le.trans zale l13
 have ln13 := LL13.n
 replace o7 := o7.keep LL13 (bl7.wide (Nat.le_refl _) (by omega))
 replace o9 := o9.keep LL13 (bl9.wide (Nat.le_refl _) (by omega))
 replace o10r0 := o10r0.keep LL13 (bl10r0.wide (Nat.le_refl _) (by omega))
 replace o10r1 := o10r1.keep LL13 (bl10r1.wide (Nat.le_refl _) (by omega))
 replace row0 := (LL13.2 (hn h .mk) (by omega)).trans row0
 replace row1 := (LL13.2 (hn g7 .mk) (by omega)).trans row1
 obtain ⟨s13_3, s13_4, s13_5, s13_6, s13_8, s13_9, s13_12, s13_13, rfl, ce13⟩ := shModel o13
 rw [kq]
 refine ⟨by simp -dsimp -implicitDefEqProofs only [go_sem, sQ1, row1, hoo], ?_⟩
 repeat (first | rw [ko] | rw [kr] | simp -dsimp -implicitDefEqProofs only [go_sem, hoo])
 refine pw_intro (eqModel_tree (o7.keep zale (bl7.wide (Nat.le_refl _) (by omega))) (o13.keep zale (bl13.wide (Nat.le_refl _) (by omega))) hf0) ?_
 rintro _ n14 hn14 rfl
 have hm14 := hn14
 try simp only [hn_push, hn_up] at hm14
 repeat (first | rw [ko] | rw [kr] | simp -dsimp -implicitDefEqProofs only [go_sem, sQ1, hoo])
 refine wz_intro (toIntS_new (by omega)) ?_
 rintro s15 g15 ⟨l15, b15, o15, bl15⟩
 try simp only [hn_up] at bl15
 have nn15 := l15.n
 try simp only [hn_up] at nn15
 have LL15 : g13.le g15 := H2.le.trans zale l15
 have ln15 := LL15.n
 replace o7 := o7.keep LL15 (bl7.wide (Nat.le_refl _) (by omega))
 replace o9 := o9.keep LL15 (bl9.wide (Nat.le_refl _) (by omega))
 replace o10r0 := o10r0.keep LL15 (bl10r0.wide (Nat.le_refl _) (by omega))
 replace o10r1 := o10r1.keep LL15 (bl10r1.wide (Nat.le_refl _) (by omega))
 replace row0 := (LL15.2 (hn h .mk) (by omega)).trans row0
 replace row1 := (LL15.2 (hn g7 .mk) (by omega)).trans row1
 have ce15 := OT.cell o15
 repeat (first | rw [ko] | rw [kr] | simp -dsimp -implicitDefEqProofs only [go_sem, hoo])
 refine pw_intro (eqIntS_tree (o9.keep zale (bl9.wide (Nat.le_refl _) (by omega))) (o15.keep zale (bl15.wide (Nat.le_refl _) (by omega))) hf1) ?_
 rintro _ n16 hn16 rfl
 have hm16 := hn16
 try simp only [hn_push, hn_up] at hm16
 repeat (first | rw [ko] | rw [kr] | simp -dsimp -implicitDefEqProofs only [go_sem, sQ1, row1, hoo])
 refine wz_intro (markModel_treeJ (o7.keep zale (bl7.wide (Nat.le_refl _) (by omega))) (bl7.wide (Nat.le_refl _) zau) ⟨by omega, by omega⟩) ?_
 rintro _ g17 ⟨k17, z17, rfl, lo17, hi17, o7', hd17, nn17, fr17⟩
 try simp only [hn_up] at nn17
 have FR17 : ∀ {b : Nat}, b < hn g15 .mk → b ∉ b7 → g17.get b = g15.get b := fun {b} h1 h2 => (show g17.get b = _ from fr17 b zau h2).trans (by exact zfz)
 replace o9 := o9.frame fun b hb => FR17 (by have := (bl9.2 b hb).2; omega) (fun hx => by have := bl9.2 b hb; have := bl7.2 b hx; omega)
 replace o10r0 := o10r0.frame fun b hb => FR17 (by have := (bl10r0.2 b hb).2; omega) (fun hx => by have := bl10r0.2 b hb; have := bl7.2 b hx; omega)
 replace o10r1 := o10r1.frame fun b hb => FR17 (by have := (bl10r1.2 b hb).2; omega) (fun hx => by have := bl10r1.2 b hb; have := bl7.2 b hx; omega)
 replace o7 := o7'
 replace row0 := (show hg g17 (hn h .mk) .mk = _ from FR17 (by omega) (fun hx => by have := bl7.2 _ hx; omega)).trans row0
 have kp17 : 0 ≤ k17 := by omega
 have kq17 : ¬ k17 < 0 := by omega
 repeat (first | rw [ko] | rw [kr] | simp -dsimp -implicitDefEqProofs only [go_sem, sQ1, hoo])
 refine wz_intro (markIntS_tree (o9.keep zale (bl9.wide (Nat.le_refl _) (by omega))) (bl9.wide (Nat.le_refl _) zau) ⟨by omega, by omega⟩) ?_
 rintro _ g18 ⟨k18, z18, rfl, lo18, hi18, o9', hd18, nn18, fr18⟩
 try simp only [hn_push, hn_up] at nn18
 have FR18 : ∀ {b : Nat}, b < hn g17 .mk → b ∉ b9 → g18.get b = g17.get b := fun {b} h1 h2 => (show g18.get b = _ from fr18 b zau h2).trans (by exact zfz)
 replace o10r0 := o10r0.frame fun b hb => FR18 (by have := (bl10r0.2 b hb).2; omega) (fun hx => by have := bl10r0.2 b hb; have := bl9.2 b hx; omega)
 replace o10r1 := o10r1.frame fun b hb => FR18 (by have := (bl10r1.2 b hb).2; omega) (fun hx => by have := bl10r1.2 b hb; have := bl9.2 b hx; omega)
 replace o9 := o9'
 replace row0 := (show hg g18 (hn h .mk) .mk = _ from FR18 (by omega) (fun hx => by have := bl9.2 _ hx; omega)).trans row0
 have kp18 : 0 ≤ k18 := by omega
 have kq18 : ¬ k18 < 0 := by omega
 repeat (first | rw [ko] | rw [kr] | simp -dsimp -implicitDefEqProofs only [go_sem, sQ1, kq18, hoo])
 refine pw_intro (eqCellS_mix (o10r0.keep zale (bl10r0.wide (Nat.le_refl _) (by omega))) hfc) ?_
 rintro _ n19 hn19 rfl
 have hm19 := hn19
 try simp only [hn_push, hn_up] at hm19
 repeat (first | rw [ko] | rw [kr] | simp -dsimp -implicitDefEqProofs only [go_sem, sQ1, hoo])
 refine pw_intro (eqIntS_mix (o10r1.keep zale (bl10r1.wide (Nat.le_refl _) (by omega))) (by omega)) ?_
 rintro _ n20 hn20 rfl
 have hm20 := hn20
 try simp only [hn_up] at hm20
 repeat (first | rw [ko] | rw [kr] | simp -dsimp -implicitDefEqProofs only [go_sem, sQ1, hoo])
 refine wz_intro (markCellS_tree (o10r0.keep zale (bl10r0.wide (Nat.le_refl _) (by omega))) (bl10r0.wide (Nat.le_refl _) zau) ⟨by omega, by omega⟩) ?_
 rintro _ g21 ⟨k21, z21, rfl, lo21, hi21, o10r0', hd21, nn21, fr21⟩
 try simp only [hn_up] at nn21
 have FR21 : ∀ {b : Nat}, b < hn g18 .mk → b ∉ b10r0 → g21.get b = g18.get b := fun {b} h1 h2 => (show g21.get b = _ from fr21 b zau h2).trans (by exact zfz)
 replace o10r1 := o10r1.frame fun b hb => FR21 (by have := (bl10r1.2 b hb).2; omega) (fun hx => dj10 b hx hb)
 replace o10r0 := o10r0'
 replace row0 := (show hg g21 (hn h .mk) .mk = _ from FR21 (by omega) (fun hx => by have := bl10r0.2 _ hx; omega)).trans row0
 have kp21 : 0 ≤ k21 := by omega
 have kq21 : ¬ k21 < 0 := by omega
 repeat (first | rw [ko] | rw [kr] | simp -dsimp -implicitDefEqProofs only [go_sem, sQ1, hoo])
 refine wz_intro (markIntS_tree (o10r1.keep zale (bl10r1.wide (Nat.le_refl _) (by omega))) (bl10r1.wide (Nat.le_refl _) zau) ⟨by omega, by omega⟩) ?_
 rintro _ g22 ⟨k22, z22, rfl, lo22, hi22, o10r1', hd22, nn22, fr22⟩
 try simp only [hn_push, hn_up] at nn22
 have FR22 : ∀ {b : Nat}, b < hn g21 .mk → b ∉ b10r1 → g22.get b = g21.get b := fun {b} h1 h2 => (show g22.get b = _ from fr22 b zau h2).trans (by exact zfz)
 replace o10r0 := o10r0.frame fun b hb => FR22 (by have := (bl10r0.2 b hb).2; omega) (fun hx => dj10 b hb hx)
 replace o10r1 := o10r1'
 replace row0 := (show hg g22 (hn h .mk) .mk = _ from FR22 (by omega) (fun hx => by have := bl10r1.2 _ hx; omega)).trans row0
 have kp22 : 0 ≤ k22 := by omega
 have kq22 : ¬ k22 < 0 := by omega
 repeat (first | rw [ko] | rw [kr] | simp -dsimp -implicitDefEqProofs only [go_sem, sQ1, hoo])
 refine pw_intro (heldCellS_tree (o10r0.keep zale (bl10r0.wide (Nat.le_refl _) (by omega))) hd21) ?_
 rintro _ n23 hn23 rfl
 have hm23 := hn23
 try simp only [hn_push, hn_up] at hm23
 repeat (first | rw [ko] | rw [kr] | simp -dsimp -implicitDefEqProofs only [go_sem, sQ1, kq21, hoo])
 refine pw_intro (heldIntS_tree (o10r1.keep zale (bl10r1.wide (Nat.le_refl _) (by omega))) hd22) ?_
 rintro _ n24 hn24 rfl
 have hm24 := hn24
 try simp only [hn_up] at hm24
 repeat (first | rw [ko] | rw [kr] | simp -dsimp -implicitDefEqProofs only [go_sem, sQ1, kq22, row0, hoo])
 refine wz_intro (toModel_ok (by omega)) ?_
 rintro _ g25 ⟨l25, ys25, b25, rfl, o25, bl25⟩
 try simp only [hn_up] at bl25
 have nn25 := l25.n
 try simp only [hn_up] at nn25
 have LL25 : g22.le g25 := H2.le.trans zale l25
 have ln25 := LL25.n
 replace o10r0 := o10r0.keep LL25 (bl10r0.wide (Nat.le_refl _) (by omega))
 replace o10r1 := o10r1.keep LL25 (bl10r1.wide (Nat.le_refl _) (by omega))
 obtain ⟨s25_3, s25_4, s25_5, s25_6, s25_8, s25_9, s25_12, s25_13, rfl, ce25⟩ := shModel o25
 repeat (first | rw [ko] | rw [kr] | simp -dsimp -implicitDefEqProofs only [go_sem, sQ1, hoo])
 refine wz_intro (toIntS_new (by omega)) ?_
 rintro s26 g26 ⟨l26, b26, o26, bl26⟩
 try simp only [hn_push, hn_up] at bl26
 have nn26 := l26.n
 try simp only [hn_push, hn_up] at nn26
 have LL26 : g25.le g26 := H2.le.trans zale l26
 have ln26 := LL26.n
 replace o10r0 := o10r0.keep LL26 (bl10r0.wide (Nat.le_refl _) (by omega))
 replace o10r1 := o10r1.keep LL26 (bl10r1.wide (Nat.le_refl _) (by omega))
 replace o25 := o25.keep LL26 (bl25.wide (Nat.le_refl _) (by omega))
 have ce26 := OT.cell o26
 repeat (first | rw [ko] | rw [kr] | simp -dsimp -implicitDefEqProofs only [go_sem, hoo])
 refine wz_intro (implPrefill_tree (o25.keep zale (bl25.wide (Nat.le_refl _) (by omega))) (o26.keep zale (bl26.wide (Nat.le_refl _) (by omega))) hsm (by omega) (by omega)) ?_
 rintro _ g27 ⟨l27, s27r0, b27r0, s27r1, b27r1, rfl, o27r0, o27r1, bl27r0, bl27r1, dj27⟩
 try simp only [hn_push, hn_up] at bl27r0 bl27r1
 have nn27 := l27.n
 try simp only [hn_push, hn_up] at nn27
 have LL27 : g26.le g27 := H2.le.trans zale l27
 have ln27 := LL27.n
 replace o10r0 := o10r0.keep LL27 (bl10r0.wide (Nat.le_refl _) (by omega))
 replace o10r1 := o10r1.keep LL27 (bl10r1.wide (Nat.le_refl _) (by omega))
 have ce27r0 := OT.cell o27r0
 have ce27r1 := OT.cell o27r1
 repeat (first | rw [ko] | rw [kr] | simp -dsimp -implicitDefEqProofs only [go_sem, sQ1, hoo])
 refine pw_intro (eqCellS_mix (o27r0.keep zale (bl27r0.wide (Nat.le_refl _) (by omega))) hfc) ?_
 rintro _ n28 hn28 rfl
 have hm28 := hn28
 try simp only [hn_push, hn_up] at hm28
 repeat (first | rw [ko] | rw [kr] | simp -dsimp -implicitDefEqProofs only [go_sem, sQ1, hoo])
 refine pw_intro (eqIntS_mix (o27r1.keep zale (bl27r1.wide (Nat.le_refl _) (by omega))) (by omega)) ?_
 rintro _ n29 hn29 rfl
 have hm29 := hn29
 try simp only [hn_up] at hm29
 repeat (first | rw [ko] | rw [kr] | simp -dsimp -implicitDefEqProofs only [go_sem, sQ1, hoo])
 refine pw_intro (heldCellS_tree (o10r0.keep zale (bl10r0.wide (Nat.le_refl _) (by omega))) hd21) ?_
 rintro _ n30 hn30 rfl
 have hm30 := hn30
 try simp only [hn_up] at hm30
 repeat (first | rw [ko] | rw [kr] | simp -dsimp -implicitDefEqProofs only [go_sem, sQ1, kq21, hoo])
 refine pw_intro (heldIntS_tree (o10r1.keep zale (bl10r1.wide (Nat.le_refl _) (by omega))) hd22) ?_
 rintro _ n31 hn31 rfl
 have hm31 := hn31
 try simp only [hn_up] at hm31
 repeat (first | rw [ko] | rw [kr] | simp -dsimp -implicitDefEqProofs only [go_sem, sQ1, kq22, hoo])
 rfl
end Go.Bi
end
