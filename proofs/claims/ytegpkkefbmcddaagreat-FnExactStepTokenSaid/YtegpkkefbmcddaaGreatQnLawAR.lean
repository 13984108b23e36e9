/- Own lemmas that the theorem of this claim needs: the abstract machine and walks of functions. -/
import Derived.Test.YtegpkkefbmcddaaGreatQnLawAQ
set_option linter.unusedSimpArgs false
set_option linter.unusedVariables false
open Nat renaming reduceBEq → sQ1, reduceAdd → sQ2, reduceLeDiff → sQ3, reduceMul → sQ4
open Int renaming reduceLE → sQ5, reduceLT → sQ6, reduceBEq → sQ7
section
set_option maxRecDepth 20000
namespace Go.Bi
open Go.Proofs
open Go.Ai (wrap_i64)
variable {W0 : World} {P : Program}
set_option maxHeartbeats 4000000
def HePart (W0 : World) (e : LPart) (a b : Int) : Prop := ∃ (k1 : Int), e.shift = a ∧ (HhIntS W0 e.values (a + 1) k1 ∧ a + 1 ≤ k1) ∧ b = k1 ∧ 0 ≤ a ∧ b ≤ 4611686018427387904
def HhPartS (W0 : World) (c : List LPart) (a b : Int) : Prop := ∀ f g, PW Tryz.prog W0 142 [.sl f 2 (rPartS c), .raw (.int .i64 a)] g (fun y => y = .raw (.int .i64 b))
theorem heldPartS_ch {c : List LPart} {k0 k1 : Int} (h : Ch (HePart W0) k0 c k1) (hl : c.length ≤ 4611686018427387904) : HhPartS W0 c k0 k1 := by
 intro f g
 refine PW.scalar ?_
 refine begins [[0, 1], [0, 1], [0, 1, 5], [0, 1, 5], [0, 1, 5], [], [0, 1, 5], [0, 1, 5], [0, 1, 5], [], [1]] Tryz.func142 rfl (rs := [.tmp 4]) rfl rfl ?_
 intro wf
 repeat (first | rw [ko] | rw [kr] | simp -dsimp -implicitDefEqProofs only [go_sem])
 refine lz_keep [0] (fun m e h' => ∃ (i : Nat) (a : Int), g.le h' ∧ look e 5 .mk = .raw (.int .i64 (i : Nat)) ∧ look e 1 .mk = .raw (.int .i64 a) ∧ m + i = c.length ∧ Ch (HePart W0) a (c.drop i) k1) c.length ?_ ?_
 ·exact ⟨0, k0, H2.le.refl _, zsm, zsm, by omega, h⟩
 rintro m e h' hks ⟨i, a, hle, e5, e1, hm, hc⟩
 simp -dsimp -implicitDefEqProofs only [go_sem, sQ1] at hks
 by_cases q1 : (i : Int) < (c.length : Int)
 ·have q2 : i < c.length := by omega
  obtain ⟨b, hb, h0, hc'⟩ := hc.step q2
  obtain ⟨k1, f0, ⟨f1, l1⟩, hbe, ha0, hbt⟩ := hb
  have w1 := wrap_succ q2 (by omega)
  have d0 : decide (¬ (c.getD i default).shift = a) = false := decide_eq_false (fun h => h f0)
  have v0 : IntKind.i64.wrap (a + 1) = a + 1 := by rw [wrap_i64] <;> omega
  have q_1 : ¬ k1 < 0 := by omega
  repeat (first | rw [ko] | rw [kr] | simp -dsimp -implicitDefEqProofs only [go_sem, sQ1, sQ2, sQ3, hks, e5, e1, q1, q2, d0, v0])
  refine pw_intro (f1 _ _) ?_
  rintro _ n1 hn1 rfl
  try simp only [hn_up] at hn1
  repeat (first | rw [ko] | rw [kr] | simp -dsimp -implicitDefEqProofs only [go_sem, sQ1, w1, q_1])
  exact nx_keep (m - 1) (by omega) zsm ⟨i + 1, b, (le_up hle (by first | exact hn1 | (simp only [hn_up]; exact hn1))), zsm, by simp -dsimp -implicitDefEqProofs only [go_sem, sQ1, hbe], by omega, hc'⟩
 ·repeat (first | rw [ko] | rw [kr] | simp -dsimp -implicitDefEqProofs only [go_sem, sQ1, hks, e5, e1, q1])
  exact ⟨hle, ⟨_, rfl⟩, by rw [hc.done (by omega)]⟩
theorem markPartS_tree {N : Nat} {bs : List Nat} {v : X} {zs : List LPart} {h : H2} {k0 : Int} (o : OT h bs v (.l 2 (rPartS zs))) (bl : Bl N (hn h .mk) bs) (hk : 0 ≤ k0 ∧ k0 + 64 * szPartS zs ≤ 4611686018427387904) :
  WC2 Tryz.prog W0 141 [v, .raw (.int .i64 k0)] h (fun r h' => ∃ (k1 : Int) (c' : List LPart), r = .raw (.int .i64 k1) ∧ k0 ≤ k1 ∧ k1 ≤ k0 + 64 * szPartS zs ∧ OT h' bs v (.l 2 (rPartS c')) ∧ HhPartS W0 c' k0 k1 ∧ hn h .mk ≤ hn h' .mk ∧ ∀ b, b < hn h .mk → b ∉ bs → h'.get b = h.get b) := by
 have hE : ∀ a, (ePart a).length = 2 := fun a => rfl
 have hsz : (zs.length : Int) ≤ szPartS zs := by unfold szPartS; omega
 rcases o.inv with ⟨rfl, rfl, he⟩ | ⟨b, bs', cs, rfl, rfl, hb, hcs, hz, oc⟩
 ·have hzs : zs = [] := by cases zs <;> simp_all [rPartS]
  subst hzs
  refine begins [[0, 1], [0, 1], [0, 1, 5], [0, 1, 5], [0, 1, 5], [0, 1, 5], [0, 1, 5], [1]] Tryz.func141 rfl (rs := [.tmp 4]) rfl rfl ?_
  intro wf
  repeat (first | rw [ko] | rw [kr] | simp -dsimp -implicitDefEqProofs only [go_sem])
  refine lz_keep [0] (fun m e h' => h' = h ∧ look e 5 .mk = .raw (.int .i64 0) ∧ look e 1 .mk = .raw (.int .i64 k0)) 0 ?_ ?_
  ·exact ⟨rfl, zsm, zsm⟩
  rintro m e h' hks ⟨rfl, e5, e1⟩
  simp -dsimp -implicitDefEqProofs only [go_sem, sQ1] at hks
  have q1 : ¬ ((0 : Int) < ((0 : Nat) : Int)) := by decide
  repeat (first | rw [ko] | rw [kr] | simp -dsimp -implicitDefEqProofs only [go_sem, sQ1, sQ6, hks, e5, e1])
  exact ⟨k0, [], rfl, by omega, by omega, o, heldPartS_ch .nil (by decide), Nat.le_refl _, fun _ _ _ => rfl⟩
 ·have hlen : (rPartS zs).length = zs.length := rPartS_len
  rw [hlen]
  refine begins [[0, 1], [0, 1], [0, 1, 5], [0, 1, 5], [0, 1, 5], [0, 1, 5], [0, 1, 5], [1]] Tryz.func141 rfl (rs := [.tmp 4]) rfl rfl ?_
  intro wf
  repeat (first | rw [ko] | rw [kr] | simp -dsimp -implicitDefEqProofs only [go_sem])
  refine lz_keep [0] (fun m e h' => ∃ (i : Nat) (a : Int) (c' : List LPart), look e 5 .mk = .raw (.int .i64 (i : Nat)) ∧ look e 1 .mk = .raw (.int .i64 a) ∧ m + i = zs.length ∧ c'.length = i ∧ CurA h b 2 bs' h' (i * 2) ((c'.map ePart).flatten) (((zs.drop i).map ePart).flatten) ∧ Ch (HePart W0) k0 c' a ∧ k0 ≤ a ∧ a ≤ k0 + 64 * (i + sumN szPart (zs.take i))) zs.length ?_ ?_
  ·exact ⟨0, k0, [], zsm, zsm, by omega, rfl, (CurA.start hb oc bl).cast (by omega) rfl rfl, .nil, by omega, by omega⟩
  rintro m e h' hks ⟨i, a, c', e5, e1, hm, hcl, cur0, ch, lo, hi⟩
  simp -dsimp -implicitDefEqProofs only [go_sem, sQ1] at hks
  by_cases q1 : (i : Int) < (zs.length : Int)
  ·have q2 : i < zs.length := by omega
   have hd : zs.drop i = zs.getD i default :: zs.drop (i + 1) := by rw [List.drop_eq_getElem_cons q2, List.getD_eq_getElem?_getD, List.getElem?_eq_getElem q2]; rfl
   have hst : sumN szPart (zs.take (i + 1)) = sumN szPart (zs.take i) + szPart (zs.getD i default) := sumN_take (f := szPart) q2
   have hle : sumN szPart (zs.take (i + 1)) ≤ sumN szPart zs := by
    have := sumN_append (f := szPart) (l := zs.take (i + 1)) (m := zs.drop (i + 1))
    rw [List.take_append_drop] at this
    omega
   have hsz2 : szPartS zs = zs.length + sumN szPart zs := rfl
   have hszE : szPart (zs.getD i default) = (zs.getD i default).values.length := rfl
   have w1 := wrap_succ q2 (by omega)
   have hi2 : (0 : Int) ≤ (i : Int) ∧ (i : Int) < (zs.length : Int) := by omega
   replace cur0 := cur0.cast (TB' := [.v (.int .i64 (zs.getD i default).shift), .l 1 (ints (zs.getD i default).values)] ++ ((zs.drop (i + 1)).map ePart).flatten) rfl rfl (by rw [hd]; rfl)
   simp only [List.cons_append, List.nil_append] at cur0
   obtain ⟨cs0, hblk0, hlt0, ⟨_, hget0⟩, hput0⟩ := cur0.put
   obtain ⟨cw0, hw0, cur1⟩ := hput0 (.int .i64 (a)) rfl
   try simp only [set_set] at cur1
   have v0 : IntKind.i64.wrap (a + 1) = a + 1 := by rw [wrap_i64] <;> omega
   obtain ⟨cs1, y1, bb1, hblk1, hlt1, hget1, oy1, bly1, fin1⟩ := cur1.row
   have hy1 := OT.cell oy1
   have es1 := set_same hblk1
   subst es1
   repeat (first | rw [ko] | rw [kr] | simp -dsimp -implicitDefEqProofs only [go_sem, sQ1, hks, e5, e1, q1, hi2, Int.toNat_natCast, hoo, hblk0, hw0, v0, hblk1, hget1])
   refine wz_intro (markIntS_tree oy1 bly1 ⟨by omega, by omega⟩) ?_
   rintro _ g1 ⟨k1, x1, rfl, lo1, hi1, o1, hh1, nn1, fr1⟩
   have cur2 := fin1 g1 _ o1 nn1 fr1
   repeat (first | rw [ko] | rw [kr] | simp -dsimp -implicitDefEqProofs only [go_sem, sQ1, hoo, w1])
   refine nx_keep (m - 1) (by omega) zsm ⟨i + 1, k1, c' ++ [(⟨a, x1⟩ : LPart)], zsm, zsm, by omega, by simp [hcl], cur2.cast (by omega) (by simp [ePart, List.append_assoc]) rfl, ch.snoc ⟨k1, rfl, ⟨hh1, lo1⟩, rfl, by omega, by omega⟩ (by omega), by omega, by omega⟩
  ·repeat (first | rw [ko] | rw [kr] | simp -dsimp -implicitDefEqProofs only [go_sem, sQ1, hks, e5, e1, q1])
   have hi3 : i = zs.length := by omega
   rw [hi3] at cur0 hi
   rw [List.take_length] at hi
   rw [List.drop_length] at cur0
   have hcl2 : (rPartS c').length = zs.length := by rw [rPartS_len, hcl, hi3]
   obtain ⟨f1, f2, f3⟩ := CurA.full (es := rPartS c') cur0 (by rw [hcl2]) (fun e he => by
    obtain ⟨x, _, rfl⟩ := List.mem_map.1 he
    exact hE x)
   rw [hcl2] at f1
   exact ⟨a, c', rfl, lo, hi, f1, heldPartS_ch ch (by rw [hcl]; omega), f2, f3⟩
def HhPartSS (W0 : World) (c : List (List LPart)) (a b : Int) : Prop := ∀ f g, PW Tryz.prog W0 77 [.sl f 1 (rPartSS c), .raw (.int .i64 a)] g (fun y => y = .raw (.int .i64 b))
theorem heldPartSS_ch {c : List (List LPart)} {k0 k1 : Int} (h : Ch (HhPartS W0) k0 c k1) (hl : c.length ≤ 4611686018427387904) : HhPartSS W0 c k0 k1 := by
 intro f g
 refine PW.scalar ?_
 refine begins [[0, 1], [0, 1], [0, 1, 5], [0, 1, 5], [0, 1, 5], [0, 1, 5], [], [1]] Tryz.func77 rfl (rs := [.tmp 4]) rfl rfl ?_
 intro wf
 repeat (first | rw [ko] | rw [kr] | simp -dsimp -implicitDefEqProofs only [go_sem])
 refine lz_keep [0] (fun m e h' => ∃ (i : Nat) (a : Int), g.le h' ∧ look e 5 .mk = .raw (.int .i64 (i : Nat)) ∧ look e 1 .mk = .raw (.int .i64 a) ∧ m + i = c.length ∧ Ch (HhPartS W0) a (c.drop i) k1) c.length ?_ ?_
 ·exact ⟨0, k0, H2.le.refl _, zsm, zsm, by omega, h⟩
 rintro m e h' hks ⟨i, a, hle, e5, e1, hm, hc⟩
 simp -dsimp -implicitDefEqProofs only [go_sem, sQ1] at hks
 by_cases q1 : (i : Int) < (c.length : Int)
 ·have q2 : i < c.length := by omega
  obtain ⟨b, hb, h0, hc'⟩ := hc.step q2
  have w1 := wrap_succ q2 (by omega)
  have q3 : ¬ b < 0 := by omega
  repeat (first | rw [ko] | rw [kr] | simp -dsimp -implicitDefEqProofs only [go_sem, sQ1, hks, e5, e1, q1, q2])
  refine pw_intro (hb _ _) ?_
  rintro _ n hn1 rfl
  repeat (first | rw [ko] | rw [kr] | simp -dsimp -implicitDefEqProofs only [go_sem, sQ1, q3, w1])
  exact nx_keep (m - 1) (by omega) zsm ⟨i + 1, b, le_up hle hn1, zsm, zsm, by omega, hc'⟩
 ·repeat (first | rw [ko] | rw [kr] | simp -dsimp -implicitDefEqProofs only [go_sem, sQ1, hks, e5, e1, q1])
  exact ⟨hle, ⟨_, rfl⟩, by rw [hc.done (by omega)]⟩
theorem markPartSS_tree {N : Nat} {bs : List Nat} {v : X} {zs : List (List LPart)} {h : H2} {k0 : Int} (o : OT h bs v (.l 1 (rPartSS zs))) (bl : Bl N (hn h .mk) bs) (hk : 0 ≤ k0 ∧ k0 + 64 * szPartSS zs ≤ 4611686018427387904) :
  WC2 Tryz.prog W0 76 [v, .raw (.int .i64 k0)] h (fun r h' => ∃ (k1 : Int) (c' : List (List LPart)), r = .raw (.int .i64 k1) ∧ k0 ≤ k1 ∧ k1 ≤ k0 + 64 * szPartSS zs ∧ OT h' bs v (.l 1 (rPartSS c')) ∧ HhPartSS W0 c' k0 k1 ∧ hn h .mk ≤ hn h' .mk ∧ ∀ b, b < hn h .mk → b ∉ bs → h'.get b = h.get b) := by
 have hE : ∀ a, (ePartS a).length = 1 := fun a => rfl
 have hsz : (zs.length : Int) ≤ szPartSS zs := by unfold szPartSS; omega
 rcases o.inv with ⟨rfl, rfl, he⟩ | ⟨b, bs', cs, rfl, rfl, hb, hcs, hz, oc⟩
 ·have hzs : zs = [] := by cases zs <;> simp_all [rPartSS]
  subst hzs
  refine begins [[0, 1], [0, 1], [0, 1, 5], [0, 1, 5], [0, 1, 5], [1]] Tryz.func76 rfl (rs := [.tmp 4]) rfl rfl ?_
  intro wf
  repeat (first | rw [ko] | rw [kr] | simp -dsimp -implicitDefEqProofs only [go_sem])
  refine lz_keep [0] (fun m e h' => h' = h ∧ look e 5 .mk = .raw (.int .i64 0) ∧ look e 1 .mk = .raw (.int .i64 k0)) 0 ?_ ?_
  ·exact ⟨rfl, zsm, zsm⟩
  rintro m e h' hks ⟨rfl, e5, e1⟩
  simp -dsimp -implicitDefEqProofs only [go_sem, sQ1] at hks
  have q1 : ¬ ((0 : Int) < ((0 : Nat) : Int)) := by decide
  repeat (first | rw [ko] | rw [kr] | simp -dsimp -implicitDefEqProofs only [go_sem, sQ1, sQ6, hks, e5, e1])
  exact ⟨k0, [], rfl, by omega, by omega, o, heldPartSS_ch .nil (by decide), Nat.le_refl _, fun _ _ _ => rfl⟩
 ·have hlen : (rPartSS zs).length = zs.length := rPartSS_len
  rw [hlen]
  refine begins [[0, 1], [0, 1], [0, 1, 5], [0, 1, 5], [0, 1, 5], [1]] Tryz.func76 rfl (rs := [.tmp 4]) rfl rfl ?_
  intro wf
  repeat (first | rw [ko] | rw [kr] | simp -dsimp -implicitDefEqProofs only [go_sem])
  refine lz_keep [0] (fun m e h' => ∃ (i : Nat) (a : Int) (c' : List (List LPart)), look e 5 .mk = .raw (.int .i64 (i : Nat)) ∧ look e 1 .mk = .raw (.int .i64 a) ∧ m + i = zs.length ∧ c'.length = i ∧ CurA h b 1 bs' h' i ((c'.map ePartS).flatten) (((zs.drop i).map ePartS).flatten) ∧ Ch (HhPartS W0) k0 c' a ∧ k0 ≤ a ∧ a ≤ k0 + 64 * (i + sumN szPartS (zs.take i))) zs.length ?_ ?_
  ·exact ⟨0, k0, [], zsm, zsm, by omega, rfl, CurA.start hb oc bl, .nil, by omega, by omega⟩
  rintro m e h' hks ⟨i, a, c', e5, e1, hm, hcl, cur, ch, lo, hi⟩
  simp -dsimp -implicitDefEqProofs only [go_sem, sQ1] at hks
  by_cases q1 : (i : Int) < (zs.length : Int)
  ·have q2 : i < zs.length := by omega
   have hd : zs.drop i = zs.getD i default :: zs.drop (i + 1) := by rw [List.drop_eq_getElem_cons q2, List.getD_eq_getElem?_getD, List.getElem?_eq_getElem q2]; rfl
   have hst : sumN szPartS (zs.take (i + 1)) = sumN szPartS (zs.take i) + szPartS ((zs.getD i default)) := sumN_take (f := szPartS) q2
   have hle : sumN szPartS (zs.take (i + 1)) ≤ sumN szPartS zs := by
    have := sumN_append (f := szPartS) (l := zs.take (i + 1)) (m := zs.drop (i + 1))
    rw [List.take_append_drop] at this
    omega
   have hsz2 : szPartSS zs = zs.length + sumN szPartS zs := rfl
   have w1 := wrap_succ q2 (by omega)
   obtain ⟨cs2, y, bb, hblk, hblt, hget, oy, bly, fin⟩ := (cur.cast (TB' := .l 2 (rPartS (zs.getD i default)) :: ((zs.drop (i + 1)).map ePartS).flatten) rfl rfl (by rw [hd]; rfl)).row
   have hy := OT.cell oy
   have hi2 : (0 : Int) ≤ (i : Int) ∧ (i : Int) < (zs.length : Int) := by omega
   repeat (first | rw [ko] | rw [kr] | simp -dsimp -implicitDefEqProofs only [go_sem, sQ1, hks, e5, e1, q1, hi2, hblk, hget, Int.toNat_natCast])
   refine wz_intro (markPartS_tree oy bly ⟨by omega, by omega⟩) ?_
   rintro _ g' ⟨a', z', rfl, lo', hi', o', hh, nn, fr⟩
   have cur' := fin g' _ o' nn fr
   repeat (first | rw [ko] | rw [kr] | simp -dsimp -implicitDefEqProofs only [go_sem, sQ1, w1])
   refine nx_keep (m - 1) (by omega) zsm ⟨i + 1, a', c' ++ [z'], zsm, zsm, by omega, by simp [hcl], cur'.cast rfl (by simp [ePartS]) rfl, ch.snoc hh (by omega), by omega, by omega⟩
  ·repeat (first | rw [ko] | rw [kr] | simp -dsimp -implicitDefEqProofs only [go_sem, sQ1, hks, e5, e1, q1])
   have hi3 : i = zs.length := by omega
   rw [hi3] at cur hi
   rw [List.take_length] at hi
   rw [List.drop_length] at cur
   have hcl2 : (rPartSS c').length = zs.length := by rw [rPartSS_len, hcl, hi3]
   obtain ⟨f1, f2, f3⟩ := CurA.full (es := rPartSS c') cur (by rw [hcl2]; omega) (fun e he => by
    obtain ⟨x, _, rfl⟩ := List.mem_map.1 he
    exact hE x)
   rw [hcl2] at f1
   exact ⟨a, c', rfl, lo, hi, f1, heldPartSS_ch ch (by rw [hcl]; omega), f2, f3⟩
def HeCell (W0 : World) (e : LCell) (a b : Int) : Prop := ∃ (k0 k1 : Int), (HhPartSS W0 e.keys (a) k0 ∧ a ≤ k0) ∧ (HhPartSS W0 e.values (k0) k1 ∧ k0 ≤ k1) ∧ b = k1 ∧ 0 ≤ a ∧ b ≤ 4611686018427387904
def HhCellS (W0 : World) (c : List LCell) (a b : Int) : Prop := ∀ f g, PW Tryz.prog W0 28 [.sl f 2 (rCellS c), .raw (.int .i64 a)] g (fun y => y = .raw (.int .i64 b))
theorem heldCellS_ch {c : List LCell} {k0 k1 : Int} (h : Ch (HeCell W0) k0 c k1) (hl : c.length ≤ 4611686018427387904) : HhCellS W0 c k0 k1 := by
 intro f g
 refine PW.scalar ?_
 refine begins [[0, 1], [0, 1], [0, 1, 5], [0, 1, 5], [0, 1, 5], [0, 1, 5], [], [0, 1, 5], [0, 1, 5], [], [1]] Tryz.func28 rfl (rs := [.tmp 4]) rfl rfl ?_
 intro wf
 repeat (first | rw [ko] | rw [kr] | simp -dsimp -implicitDefEqProofs only [go_sem])
 refine lz_keep [0] (fun m e h' => ∃ (i : Nat) (a : Int), g.le h' ∧ look e 5 .mk = .raw (.int .i64 (i : Nat)) ∧ look e 1 .mk = .raw (.int .i64 a) ∧ m + i = c.length ∧ Ch (HeCell W0) a (c.drop i) k1) c.length ?_ ?_
 ·exact ⟨0, k0, H2.le.refl _, zsm, zsm, by omega, h⟩
 rintro m e h' hks ⟨i, a, hle, e5, e1, hm, hc⟩
 simp -dsimp -implicitDefEqProofs only [go_sem, sQ1] at hks
 by_cases q1 : (i : Int) < (c.length : Int)
 ·have q2 : i < c.length := by omega
  obtain ⟨b, hb, h0, hc'⟩ := hc.step q2
  obtain ⟨k0, k1, ⟨f0, l0⟩, ⟨f1, l1⟩, hbe, ha0, hbt⟩ := hb
  have w1 := wrap_succ q2 (by omega)
  have q_0 : ¬ k0 < 0 := by omega
  have q_1 : ¬ k1 < 0 := by omega
  repeat (first | rw [ko] | rw [kr] | simp -dsimp -implicitDefEqProofs only [go_sem, sQ1, sQ2, sQ3, hks, e5, e1, q1, q2])
  refine pw_intro (f0 _ _) ?_
  rintro _ n0 hn0 rfl
  try simp only [hn_up] at hn0
  repeat (first | rw [ko] | rw [kr] | simp -dsimp -implicitDefEqProofs only [go_sem, sQ1, sQ2, sQ3, q2, q_0])
  refine pw_intro (f1 _ _) ?_
  rintro _ n1 hn1 rfl
  try simp only [hn_up] at hn1
  repeat (first | rw [ko] | rw [kr] | simp -dsimp -implicitDefEqProofs only [go_sem, sQ1, w1, q_1])
  exact nx_keep (m - 1) (by omega) zsm ⟨i + 1, b, (le_up (le_up hle (by first | exact hn0 | (simp only [hn_up]; exact hn0))) (by first | exact hn1 | (simp only [hn_up]; exact hn1))), zsm, by simp -dsimp -implicitDefEqProofs only [go_sem, sQ1, hbe], by omega, hc'⟩
 ·repeat (first | rw [ko] | rw [kr] | simp -dsimp -implicitDefEqProofs only [go_sem, sQ1, hks, e5, e1, q1])
  exact ⟨hle, ⟨_, rfl⟩, by rw [hc.done (by omega)]⟩
theorem markCellS_tree {N : Nat} {bs : List Nat} {v : X} {zs : List LCell} {h : H2} {k0 : Int} (o : OT h bs v (.l 2 (rCellS zs))) (bl : Bl N (hn h .mk) bs) (hk : 0 ≤ k0 ∧ k0 + 64 * szCellS zs ≤ 4611686018427387904) :
  WC2 Tryz.prog W0 20 [v, .raw (.int .i64 k0)] h (fun r h' => ∃ (k1 : Int) (c' : List LCell), r = .raw (.int .i64 k1) ∧ k0 ≤ k1 ∧ k1 ≤ k0 + 64 * szCellS zs ∧ OT h' bs v (.l 2 (rCellS c')) ∧ HhCellS W0 c' k0 k1 ∧ hn h .mk ≤ hn h' .mk ∧ ∀ b, b < hn h .mk → b ∉ bs → h'.get b = h.get b) := by
 have hE : ∀ a, (eCell a).length = 2 := fun a => rfl
 have hsz : (zs.length : Int) ≤ szCellS zs := by unfold szCellS; omega
 rcases o.inv with ⟨rfl, rfl, he⟩ | ⟨b, bs', cs, rfl, rfl, hb, hcs, hz, oc⟩
 ·have hzs : zs = [] := by cases zs <;> simp_all [rCellS]
  subst hzs
  refine begins [[0, 1], [0, 1], [0, 1, 5], [0, 1, 5], [0, 1, 5], [0, 1, 5], [1]] Tryz.func20 rfl (rs := [.tmp 4]) rfl rfl ?_
  intro wf
  repeat (first | rw [ko] | rw [kr] | simp -dsimp -implicitDefEqProofs only [go_sem])
  refine lz_keep [0] (fun m e h' => h' = h ∧ look e 5 .mk = .raw (.int .i64 0) ∧ look e 1 .mk = .raw (.int .i64 k0)) 0 ?_ ?_
  ·exact ⟨rfl, zsm, zsm⟩
  rintro m e h' hks ⟨rfl, e5, e1⟩
  simp -dsimp -implicitDefEqProofs only [go_sem, sQ1] at hks
  have q1 : ¬ ((0 : Int) < ((0 : Nat) : Int)) := by decide
  repeat (first | rw [ko] | rw [kr] | simp -dsimp -implicitDefEqProofs only [go_sem, sQ1, sQ6, hks, e5, e1])
  exact ⟨k0, [], rfl, by omega, by omega, o, heldCellS_ch .nil (by decide), Nat.le_refl _, fun _ _ _ => rfl⟩
 ·have hlen : (rCellS zs).length = zs.length := rCellS_len
  rw [hlen]
  refine begins [[0, 1], [0, 1], [0, 1, 5], [0, 1, 5], [0, 1, 5], [0, 1, 5], [1]] Tryz.func20 rfl (rs := [.tmp 4]) rfl rfl ?_
  intro wf
  repeat (first | rw [ko] | rw [kr] | simp -dsimp -implicitDefEqProofs only [go_sem])
  refine lz_keep [0] (fun m e h' => ∃ (i : Nat) (a : Int) (c' : List LCell), look e 5 .mk = .raw (.int .i64 (i : Nat)) ∧ look e 1 .mk = .raw (.int .i64 a) ∧ m + i = zs.length ∧ c'.length = i ∧ CurA h b 2 bs' h' (i * 2) ((c'.map eCell).flatten) (((zs.drop i).map eCell).flatten) ∧ Ch (HeCell W0) k0 c' a ∧ k0 ≤ a ∧ a ≤ k0 + 64 * (i + sumN szCell (zs.take i))) zs.length ?_ ?_
  ·exact ⟨0, k0, [], zsm, zsm, by omega, rfl, (CurA.start hb oc bl).cast (by omega) rfl rfl, .nil, by omega, by omega⟩
  rintro m e h' hks ⟨i, a, c', e5, e1, hm, hcl, cur0, ch, lo, hi⟩
  simp -dsimp -implicitDefEqProofs only [go_sem, sQ1] at hks
  by_cases q1 : (i : Int) < (zs.length : Int)
  ·have q2 : i < zs.length := by omega
   have hd : zs.drop i = zs.getD i default :: zs.drop (i + 1) := by rw [List.drop_eq_getElem_cons q2, List.getD_eq_getElem?_getD, List.getElem?_eq_getElem q2]; rfl
   have hst : sumN szCell (zs.take (i + 1)) = sumN szCell (zs.take i) + szCell (zs.getD i default) := sumN_take (f := szCell) q2
   have hle : sumN szCell (zs.take (i + 1)) ≤ sumN szCell zs := by
    have := sumN_append (f := szCell) (l := zs.take (i + 1)) (m := zs.drop (i + 1))
    rw [List.take_append_drop] at this
    omega
   have hsz2 : szCellS zs = zs.length + sumN szCell zs := rfl
   have hszE : szCell (zs.getD i default) = szPartSS (zs.getD i default).keys + szPartSS (zs.getD i default).values := rfl
   have w1 := wrap_succ q2 (by omega)
   have hi2 : (0 : Int) ≤ (i : Int) ∧ (i : Int) < (zs.length : Int) := by omega
   replace cur0 := cur0.cast (TB' := [.l 1 (rPartSS (zs.getD i default).keys), .l 1 (rPartSS (zs.getD i default).values)] ++ ((zs.drop (i + 1)).map eCell).flatten) rfl rfl (by rw [hd]; rfl)
   simp only [List.cons_append, List.nil_append] at cur0
   obtain ⟨cs0, y0, bb0, hblk0, hlt0, hget0, oy0, bly0, fin0⟩ := cur0.row
   have hy0 := OT.cell oy0
   repeat (first | rw [ko] | rw [kr] | simp -dsimp -implicitDefEqProofs only [go_sem, sQ1, hks, e5, e1, q1, hi2, Int.toNat_natCast, hoo, hblk0, hget0])
   refine wz_intro (markPartSS_tree oy0 bly0 ⟨by omega, by omega⟩) ?_
   rintro _ g0 ⟨k0, x0, rfl, lo0, hi0, o0, hh0, nn0, fr0⟩
   have cur1 := fin0 g0 _ o0 nn0 fr0
   obtain ⟨cs1, y1, bb1, hblk1, hlt1, hget1, oy1, bly1, fin1⟩ := cur1.row
   have hy1 := OT.cell oy1
   repeat (first | rw [ko] | rw [kr] | simp -dsimp -implicitDefEqProofs only [go_sem, sQ1, q1, hi2, Int.toNat_natCast, hoo, hblk1, hget1])
   refine wz_intro (markPartSS_tree oy1 bly1 ⟨by omega, by omega⟩) ?_
   rintro _ g1 ⟨k1, x1, rfl, lo1, hi1, o1, hh1, nn1, fr1⟩
   have cur2 := fin1 g1 _ o1 nn1 fr1
   repeat (first | rw [ko] | rw [kr] | simp -dsimp -implicitDefEqProofs only [go_sem, sQ1, hoo, w1])
   refine nx_keep (m - 1) (by omega) zsm ⟨i + 1, k1, c' ++ [(⟨x0, x1⟩ : LCell)], zsm, zsm, by omega, by simp [hcl], cur2.cast (by omega) (by simp [eCell, List.append_assoc]) rfl, ch.snoc ⟨k0, k1, ⟨hh0, lo0⟩, ⟨hh1, lo1⟩, rfl, by omega, by omega⟩ (by omega), by omega, by omega⟩
  ·repeat (first | rw [ko] | rw [kr] | simp -dsimp -implicitDefEqProofs only [go_sem, sQ1, hks, e5, e1, q1])
   have hi3 : i = zs.length := by omega
   rw [hi3] at cur0 hi
   rw [List.take_length] at hi
   rw [List.drop_length] at cur0
   have hcl2 : (rCellS c').length = zs.length := by rw [rCellS_len, hcl, hi3]
   obtain ⟨f1, f2, f3⟩ := CurA.full (es := rCellS c') cur0 (by rw [hcl2]) (fun e he => by
    obtain ⟨x, _, rfl⟩ := List.mem_map.1 he
    exact hE x)
   rw [hcl2] at f1
   exact ⟨a, c', rfl, lo, hi, f1, heldCellS_ch ch (by rw [hcl]; omega), f2, f3⟩
end Go.Bi
end
section
set_option maxRecDepth 20000
namespace Go.Bi
open Go.Proofs
open Go.Ai (wrap_i64)
variable {W0 : World} {P : Program}
set_option maxHeartbeats 4000000
theorem OT.setN {g : H2} {bs : List Nat} {x : X} {t : T} {N M b : Nat} {k : OB} (o : OT g bs x t) (bl : Bl N M bs) (hb : b < N) : OT (g.set b k) bs x t := o.frame fun q hq => by
 have := (bl.2 q hq).1
 simp only [H2.set]; rw [if_neg (by omega)]
end Go.Bi
end
section
set_option maxRecDepth 20000
namespace Go.Bi
open Go.Proofs
open Go.Ai (wrap_i64)
variable {W0 : World} {P : Program}
set_option maxHeartbeats 8000000
theorem Gr.setB {N b : Nat} {g : H2} {k : OB} {v : X} {z n : Nat} {ts : List T} {bs : List Nat} (gr : Gr N g v z n ts bs) (hb : b < N) : Gr N (g.set b k) v z n ts bs := by
 obtain ⟨cs, ⟨e1, e2⟩, t1, b1, d1⟩ := gr
 refine ⟨cs, ⟨e1, e2.imp_right ?_⟩, t1.frame fun q hq => ?_, by simp only [hn_set]; exact b1, d1⟩
 ·rintro ⟨q, f1, f2, f3, f4⟩
  exact ⟨q, f1, f2, by simp only [hn_set]; exact f3, by rw [hg_set, show (q == b) = false by simp; omega]; exact f4⟩
 ·have := b1.2 q hq
  simp only [H2.set]; rw [if_neg (by omega)]
end Go.Bi
end
section
set_option maxRecDepth 20000
namespace Go.Bi
open Go.Proofs
open Go.Ai (wrap_i64)
variable {W0 : World} {P : Program}
set_option maxHeartbeats 8000000
theorem app_ints {f : Adr} {h : H2} {K : KT} {zs : List Int} (hs : zs.length ≤ 1048576) (hk : ∀ y g' b, h.le g' → OT g' b y (.l 1 (ints zs)) → Bl (hn h .mk) (hn g' .mk) b → kz K y g' .mk) :
  az (biz Tryz.prog (h.push ⟨1, []⟩) .append [25, 25] [.raw (.slice (some ⟨hn h .mk, 0, none⟩) 0 0), .sl f 1 (ints zs)] .mk) K .mk := by
 refine append_ints (P := Tryz.prog) (D := fun _ => none) (N := hn h .mk) (xs := []) Go.Ai.ty_el25 Go.Ai.ty_zr3 Go.Ai.ty_cl25 (Own.new (Nat.le_refl _) rfl) (by simp only [hn_push]; omega) (by simp only [List.length_nil]; have : Go.Ai.most = 1099511627776 := rfl; omega) ?_
 intro y g1 oy n1 le1 fr1
 rw [List.nil_append] at oy
 obtain ⟨b, o, bl⟩ := OwnI.tree oy
 exact hk y g1 b (le1 h (Nat.le_refl _) (H2.le_push1 h _)) o bl
end Go.Bi
end
section
set_option maxRecDepth 20000
namespace Go.Bi
open Go.Proofs
open Go.Ai (wrap_i64)
variable {W0 : World} {P : Program}
set_option maxHeartbeats 8000000
theorem copyParts_new {f : Adr} {zs : List LPart} {g : H2} (hs : szPartS zs ≤ 1048576) : NewT Tryz.prog W0 113 [.sl f 2 (rPartS zs)] g (.l 2 (rPartS zs)) := by
 have hl : zs.length ≤ 1048576 := by unfold szPartS at hs; omega
 refine begins [[0], [0], [0, 3], [0, 3, 4], [0, 3, 4], [0, 3, 4], [3]] Tryz.func113 rfl (rs := [.tmp 2]) rfl rfl ?_
 intro wf
 repeat (first | rw [ko] | rw [kr] | simp -dsimp -implicitDefEqProofs only [go_sem, sQ1, sQ2, sQ3])
 refine lz_keep [0] (fun m e h' => ∃ (i : Nat) (v : X) (bs : List Nat), look e 4 .mk = .raw (.int .i64 (i : Nat)) ∧ look e 3 .mk = v ∧ m + i = zs.length ∧ g.le h' ∧ Gr (hn g .mk) h' v 2 i (((zs.take i).map ePart).flatten) bs) zs.length ?_ ?_
 ·exact ⟨0, _, [], zsm, by simp -dsimp -implicitDefEqProofs only [go_sem] <;> rfl, by omega, le_push (H2.le.refl _), Gr.empty (Nat.le_refl _)⟩
 rintro m e h' hks ⟨i, v, bs, ei, ev, hm, hle, gr⟩
 simp -dsimp -implicitDefEqProofs only [go_sem] at hks
 by_cases q1 : (i : Int) < (zs.length : Int)
 ·have q2 : i < zs.length := by omega
  have w1 := wrap_succ q2 (by omega)
  have hsl : szPart (zs.getD i default) ≤ sumN szPart zs := sumN_mem (f := szPart) (getD_mem q2)
  have hsz2 : szPartS zs = zs.length + sumN szPart zs := rfl
  have hv := Gr.cell gr
  have hp : (zs.getD i default).values.length ≤ 1048576 := by have : szPart (zs.getD i default) = (zs.getD i default).values.length := rfl; omega
  repeat (first | rw [ko] | rw [kr] | simp -dsimp -implicitDefEqProofs only [go_sem, sQ1, hks, ei, ev, q1])
  refine dq_intro [(0, []), (1, []), (2, []), (3, []), (4, []), (5, []), (7, []), (8, []), (9, []), (10, []), (11, []), (6, [5, 11]), (12, [5]), (13, []), (14, []), (15, []), (16, [])] (by kernel_rfl) ?_
  repeat (first | rw [ko] | rw [kr] | simp -dsimp -implicitDefEqProofs only [go_sem, sQ1, sQ2, sQ3, q2, hoo])
  refine app_ints hp ?_
  intro y g1 b1 l1 oy bl1
  have hy := OT.cell oy
  try (rw [kq]; refine ⟨zsm, ?_⟩)
  repeat (first | rw [ko] | rw [kr] | simp -dsimp -implicitDefEqProofs only [go_sem, sQ1, sQ2, sQ3, sQ4, hy])
  refine lit_intro (cs := [.raw (.int .i64 (zs.getD i default).shift), y]) rfl ?_
  intro w g2 hs2 l2
  try (rw [kq]; refine ⟨zsm, ?_⟩)
  repeat (first | rw [ko] | rw [kr] | simp -dsimp -implicitDefEqProofs only [go_sem, sQ1])
  have o1 : OTs g1 b1 [.raw (.int .i64 (zs.getD i default).shift), y] (ePart (zs.getD i default)) := outPart (c := zs.getD i default) oy
  have gr1 := gr.keep (l1.trans l2)
  have hvl := gr.lt
  have ll1 := l1.1
  have ll2 := l2.1
  have ll0 := hle.1
  refine append_gr (P := Tryz.prog) (D := fun _ => none) (N := hn g .mk) (us := ePart (zs.getD i default)) Go.Ai.ty_el156 Go.Ai.ty_zr196 rfl Go.Ai.ty_cl156 gr1 hs2 (OTs.frame o1 fun q hq => by have := bl1.2 q hq; exact l2.2 q (by omega)) rfl (by omega) (fun b hb => by have := bl1.2 b hb; omega) bl1.1 (fun b hb hb' => by have := gr.bl b hb; have := bl1.2 b hb'; omega) (fun b e hb' => by have := hvl b e; have := bl1.2 b hb'; omega) (by have : Go.Ai.most = 1099511627776 := rfl; omega) ?_
  intro v' g3 gr3 nn3 le3 fr3
  have hv' := Gr.cell gr3
  try (rw [kq]; refine ⟨zsm, ?_⟩)
  repeat (first | rw [ko] | rw [kr] | simp -dsimp -implicitDefEqProofs only [go_sem, sQ1, w1])
  refine nx_keep (m - 1) (by omega) zsm ⟨i + 1, v', _, zsm, zsm, by omega, le3 g (Nat.le_refl _) ((hle.trans l1).trans l2), (flat_next (E := ePart) q2).symm ▸ gr3⟩
 ·repeat (first | rw [ko] | rw [kr] | simp -dsimp -implicitDefEqProofs only [go_sem, sQ1, hks, ei, ev, q1])
  have hi : i = zs.length := by omega
  rw [hi, List.take_length] at gr
  obtain ⟨bs', o', bl'⟩ := Gr.tree (es := rPartS zs) gr (by rw [rPartS_len]) (fun e he => by obtain ⟨x, _, rfl⟩ := List.mem_map.1 he; rfl)
  exact ⟨hle, bs', o', bl'⟩
end Go.Bi
end
section
set_option maxRecDepth 20000
namespace Go.Bi
open Go.Proofs
open Go.Ai (wrap_i64)
variable {W0 : World} {P : Program}
set_option maxHeartbeats 8000000
theorem copyCell_new {F : Nat → Adr} {c : LCell} {g : H2} (hs : szCell c ≤ 1048576) : NewS Tryz.prog W0 52 [.st (xCell F c)] g (eCell c) := by
 have hsz : szCell c = (c.keys.length + sumN szPartS c.keys) + (c.values.length + sumN szPartS c.values) := rfl
 refine begins [[0], [1, 2], [1, 2, 3], [1, 2, 3, 4], [1, 2, 3, 4], [1, 2, 3, 4], [1, 2, 3], [1, 2, 3, 5], [1, 2, 3, 5], [1, 2, 3, 5], [2, 3]] Tryz.func52 rfl (rs := [.cell 2 37]) rfl rfl ?_
 intro wf
 have n01 : ((hn g .mk) == (hn g .mk + 1)) = false := zne
 have n02 : ((hn g .mk) == (hn g .mk + 1 + 1)) = false := zne
 have n10 : ((hn g .mk + 1) == (hn g .mk)) = false := zne
 have n12 : ((hn g .mk + 1) == (hn g .mk + 1 + 1)) = false := zne
 have n20 : ((hn g .mk + 1 + 1) == (hn g .mk)) = false := zne
 have n21 : ((hn g .mk + 1 + 1) == (hn g .mk + 1)) = false := zne
 repeat (first | rw [ko] | rw [kr] | simp -dsimp -implicitDefEqProofs only [go_sem, sQ1, sQ2, hoo])
 refine lz_keep [1, 2, 3] (fun m e h' => ∃ (i : Nat) (v : X) (bs : List Nat), look e 4 .mk = .raw (.int .i64 (i : Nat)) ∧ m + i = c.keys.length ∧ g.le h' ∧ hn g .mk + 3 ≤ hn h' .mk ∧ hg h' (hn g .mk) .mk = some ⟨2, [.sl (F 0) 1 (rPartSS c.keys), .sl (F 1) 1 (rPartSS c.values)]⟩ ∧ hg h' (hn g .mk + 1) .mk = some ⟨2, [.raw (.slice none 0 0), .raw (.slice none 0 0)]⟩ ∧ hg h' (hn g .mk + 1 + 1) .mk = some ⟨2, [v, .raw (.slice none 0 0)]⟩ ∧ Gr (hn g .mk + 3) h' v 1 i (((c.keys.take i).map ePartS).flatten) bs) c.keys.length ?_ ?_
 ·exact ⟨0, .raw (.slice none 0 0), [], zsm, by omega, zale, by simp only [hn_push, hn_set]; omega, by simp -dsimp -implicitDefEqProofs only [go_sem, hoo, n01, n02] <;> rfl, by simp -dsimp -implicitDefEqProofs only [go_sem, hoo, n12] <;> rfl, by simp -dsimp -implicitDefEqProofs only [go_sem, hoo] <;> rfl, Gr.nil⟩
 rintro m e h' hks ⟨i, v, bs, ei, hm, hle, hnn, r1, r2, r3, gr⟩
 simp -dsimp -implicitDefEqProofs only [go_sem] at hks
 by_cases q1 : (i : Int) < (c.keys.length : Int)
 ·skip
  have q2 : i < c.keys.length := by omega
  have w1 := wrap_succ q2 (by omega)
  have hv := Gr.cell gr
  have hsl : szPartS (c.keys.getD i default) ≤ sumN szPartS c.keys := sumN_mem (f := szPartS) (getD_mem q2)
  repeat (first | rw [ko] | rw [kr] | simp -dsimp -implicitDefEqProofs only [go_sem, sQ1, hks, ei, q1, hoo, r1])
  refine dq_intro [(0, []), (1, []), (2, []), (3, []), (4, []), (5, []), (6, []), (7, [1]), (8, [1]), (9, []), (10, []), (11, [])] (by kernel_rfl) ?_
  repeat (first | rw [ko] | rw [kr] | simp -dsimp -implicitDefEqProofs only [go_sem, sQ1, hoo, r1, r3, q2])
  refine wz_intro (copyParts_new (f := under (under (F 0) i) 0) (zs := c.keys.getD i default) (by omega)) ?_
  rintro y g1 ⟨l1, b1, o1, bl1⟩
  have hy := OT.cell o1
  have ll1 := l1.1
  have hvl := gr.lt
  have ra0 := (l1.2 (hn g .mk) zau).trans r1
  have ra1 := (l1.2 (hn g .mk + 1) zau).trans r2
  have ra2 := (l1.2 (hn g .mk + 1 + 1) zau).trans r3
  try (rw [kq]; refine ⟨by simp -dsimp -implicitDefEqProofs only [go_sem, sQ1, hoo, ra2], ?_⟩)
  repeat (first | rw [ko] | rw [kr] | simp -dsimp -implicitDefEqProofs only [go_sem, sQ3, hoo, hy])
  refine lit_intro (cs := [y]) rfl ?_
  intro w g2 hs2 l2
  have ll2 := l2.1
  have rb0 := (l2.2 (hn g .mk) zau).trans ra0
  have rb1 := (l2.2 (hn g .mk + 1) zau).trans ra1
  have rb2 := (l2.2 (hn g .mk + 1 + 1) zau).trans ra2
  try (rw [kq]; refine ⟨by simp -dsimp -implicitDefEqProofs only [go_sem, sQ1, hoo, rb2], ?_⟩)
  repeat (first | rw [ko] | rw [kr] | simp -dsimp -implicitDefEqProofs only [go_sem, sQ1, hoo])
  refine append_gr (P := Tryz.prog) (D := fun _ => none) (N := hn g .mk + 3) (us := [.l 2 (rPartS (c.keys.getD i default))]) Go.Ai.ty_el35 Go.Ai.ty_zr156 rfl Go.Ai.ty_cl35 (gr.keep (l1.trans l2)) hs2 (OTs.one (o1.frame fun q hq => by have := bl1.2 q hq; exact l2.2 q (by omega))) rfl (by omega) (fun b hb => by have := bl1.2 b hb; omega) bl1.1 (fun b hb hb' => by have := gr.bl b hb; have := bl1.2 b hb'; omega) (fun b e hb' => by have := hvl b e; have := bl1.2 b hb'; omega) (by have : Go.Ai.most = 1099511627776 := rfl; omega) ?_
  intro v' g3 gr3 nn3 le3 fr3
  have hv' := Gr.cell gr3
  have rc0 := (fr3 (hn g .mk) zau (fun e => by have := hvl _ e; omega)).trans rb0
  have rc1 := (fr3 (hn g .mk + 1) zau (fun e => by have := hvl _ e; omega)).trans rb1
  have rc2 := (fr3 (hn g .mk + 1 + 1) zau (fun e => by have := hvl _ e; omega)).trans rb2
  try (rw [kq]; refine ⟨zsm, ?_⟩)
  repeat (first | rw [ko] | rw [kr] | simp -dsimp -implicitDefEqProofs only [go_sem, sQ1, hoo, rc2, w1, hv'])
  refine nx_keep (m - 1) (by omega) zsm ⟨i + 1, v', _, zsm, by omega, le_set (le3 g (by omega) ((hle.trans l1).trans l2)) (by omega), by simp only [hn_set]; omega, by simp -dsimp -implicitDefEqProofs only [go_sem, rc0, n02] <;> rfl, by simp -dsimp -implicitDefEqProofs only [go_sem, rc1, n12] <;> rfl, by simp -dsimp -implicitDefEqProofs only [go_sem, hoo] <;> rfl, (flat_next (E := ePartS) q2).symm ▸ Gr.setB gr3 (by omega)⟩
 have hi : i = c.keys.length := by omega
 rw [hi, List.take_length] at gr
 have hv := Gr.cell gr
 obtain ⟨bA, oA, blA⟩ := Gr.tree (es := rPartSS c.keys) gr (by rw [rPartSS_len]) (fun e he => by obtain ⟨x, _, rfl⟩ := List.mem_map.1 he; rfl)
 repeat (first | rw [ko] | rw [kr] | simp -dsimp -implicitDefEqProofs only [go_sem, sQ1, hks, ei, q1, r1, hoo])
 clear ei q1 hi gr hm
 have vA := v
 refine lz_keep [1, 2, 3] (fun m2 e2 h2 => ∃ (i : Nat) (v2 : X) (bs : List Nat), look e2 5 .mk = .raw (.int .i64 (i : Nat)) ∧ m2 + i = c.values.length ∧ hn h' .mk ≤ hn h2 .mk ∧ (∀ b, b < hn h' .mk → b ≠ hn g .mk + 1 + 1 → hg h2 b .mk = hg h' b .mk) ∧ hg h2 (hn g .mk + 1 + 1) .mk = some ⟨2, [v, v2]⟩ ∧ Gr (hn h' .mk) h2 v2 1 i (((c.values.take i).map ePartS).flatten) bs) c.values.length ?_ ?_
 ·exact ⟨0, .raw (.slice none 0 0), [], zsm, by omega, Nat.le_refl _, fun _ _ _ => rfl, by simp -dsimp -implicitDefEqProofs only [go_sem, r3] <;> rfl, Gr.nil⟩
 rintro m2 e2 h2 hks2 ⟨i, v2, bs2, ei, hm, hn2, fr2, r3', gr⟩
 simp -dsimp -implicitDefEqProofs only [go_sem] at hks2
 have r1' := (fr2 (hn g .mk) (by omega) (by omega)).trans r1
 have r2' := (fr2 (hn g .mk + 1) (by omega) (by omega)).trans r2
 by_cases q1 : (i : Int) < (c.values.length : Int)
 ·skip
  have q2 : i < c.values.length := by omega
  have w1 := wrap_succ q2 (by omega)
  have hv := Gr.cell gr
  have hsl : szPartS (c.values.getD i default) ≤ sumN szPartS c.values := sumN_mem (f := szPartS) (getD_mem q2)
  repeat (first | rw [ko] | rw [kr] | simp -dsimp -implicitDefEqProofs only [go_sem, sQ1, hks2, ei, q1, hoo, r1'])
  refine dq_intro [(0, []), (1, []), (2, []), (3, []), (4, []), (5, []), (6, []), (7, [1]), (8, [1]), (9, []), (10, []), (11, [])] (by kernel_rfl) ?_
  repeat (first | rw [ko] | rw [kr] | simp -dsimp -implicitDefEqProofs only [go_sem, sQ1, hoo, r1', r3', q2])
  refine wz_intro (copyParts_new (f := under (under (F 1) i) 0) (zs := c.values.getD i default) (by omega)) ?_
  rintro y g1 ⟨l1, b1, o1, bl1⟩
  have hy := OT.cell o1
  have ll1 := l1.1
  have hvl := gr.lt
  have ra0 := (l1.2 (hn g .mk) zau).trans r1'
  have ra1 := (l1.2 (hn g .mk + 1) zau).trans r2'
  have ra2 := (l1.2 (hn g .mk + 1 + 1) zau).trans r3'
  try (rw [kq]; refine ⟨by simp -dsimp -implicitDefEqProofs only [go_sem, sQ1, hoo, ra2], ?_⟩)
  repeat (first | rw [ko] | rw [kr] | simp -dsimp -implicitDefEqProofs only [go_sem, sQ3, hoo, hy])
  refine lit_intro (cs := [y]) rfl ?_
  intro w g2 hs2 l2
  have ll2 := l2.1
  have rb0 := (l2.2 (hn g .mk) zau).trans ra0
  have rb1 := (l2.2 (hn g .mk + 1) zau).trans ra1
  have rb2 := (l2.2 (hn g .mk + 1 + 1) zau).trans ra2
  try (rw [kq]; refine ⟨by simp -dsimp -implicitDefEqProofs only [go_sem, sQ1, hoo, rb2], ?_⟩)
  repeat (first | rw [ko] | rw [kr] | simp -dsimp -implicitDefEqProofs only [go_sem, sQ1, hoo])
  refine append_gr (P := Tryz.prog) (D := fun _ => none) (N := hn h' .mk) (us := [.l 2 (rPartS (c.values.getD i default))]) Go.Ai.ty_el35 Go.Ai.ty_zr156 rfl Go.Ai.ty_cl35 (gr.keep (l1.trans l2)) hs2 (OTs.one (o1.frame fun q hq => by have := bl1.2 q hq; exact l2.2 q (by omega))) rfl (by omega) (fun b hb => by have := bl1.2 b hb; omega) bl1.1 (fun b hb hb' => by have := gr.bl b hb; have := bl1.2 b hb'; omega) (fun b e hb' => by have := hvl b e; have := bl1.2 b hb'; omega) (by have : Go.Ai.most = 1099511627776 := rfl; omega) ?_
  intro v' g3 gr3 nn3 le3 fr3
  have hv' := Gr.cell gr3
  have rc0 := (fr3 (hn g .mk) zau (fun e => by have := hvl _ e; omega)).trans rb0
  have rc1 := (fr3 (hn g .mk + 1) zau (fun e => by have := hvl _ e; omega)).trans rb1
  have rc2 := (fr3 (hn g .mk + 1 + 1) zau (fun e => by have := hvl _ e; omega)).trans rb2
  try (rw [kq]; refine ⟨zsm, ?_⟩)
  repeat (first | rw [ko] | rw [kr] | simp -dsimp -implicitDefEqProofs only [go_sem, sQ1, hoo, rc2, w1, hv'])
  refine nx_keep (m2 - 1) (by omega) zsm ⟨i + 1, v', _, zsm, by omega, by simp only [hn_set]; omega, fun b h1 h3 => ?_, by simp -dsimp -implicitDefEqProofs only [go_sem, hoo] <;> rfl, (flat_next (E := ePartS) q2).symm ▸ Gr.setB gr3 (by omega)⟩
  rw [hg_set, show (b == hn g .mk + 1 + 1) = false by simp [h3]]
  exact ((fr3 b (by omega) (fun e => by have := hvl _ e; omega)).trans ((l2.2 b (by omega)).trans (l1.2 b (by omega)))).trans (fr2 b h1 h3)
 have hi : i = c.values.length := by omega
 rw [hi, List.take_length] at gr
 have hv2 := Gr.cell gr
 obtain ⟨bB, oB, blB⟩ := Gr.tree (es := rPartSS c.values) gr (by rw [rPartSS_len]) (fun e he => by obtain ⟨x, _, rfl⟩ := List.mem_map.1 he; rfl)
 repeat (first | rw [ko] | rw [kr] | simp -dsimp -implicitDefEqProofs only [go_sem, sQ1, sQ2, hks2, ei, q1, r1', r2', r3', hoo, hv, hv2])
 have hle2 : g.le h2 := ⟨by omega, fun b hb => (fr2 b (by omega) (by omega)).trans (hle.2 b hb)⟩
 refine ⟨le_set hle2 (by omega), _, bA ++ bB, rfl, outCell (c := c) ((oA.frame (g' := h2) fun q hq => by have := blA.2 q hq; exact fr2 q (by omega) (by omega)).setN blA (by omega)) (oB.setN blB (by omega)), ?_⟩
 simp only [hn_set]
 exact (blA.append blB (by omega) (by omega)).wide (by omega) (Nat.le_refl _)
end Go.Bi
end
section
set_option maxRecDepth 20000
namespace Go.Bi
open Go.Proofs
open Go.Ai (wrap_i64 Heap)
variable {W0 : World} {P : Program}
set_option maxHeartbeats 8000000
def RTok (ok : Bool) (c : LCell) (lg : List Int) (x : X) (g : H2) (bs : List Nat) : Prop := ∃ w1 w2 v b1 b2 b3, bs = b1 ++ b2 ++ b3 ∧ x = .tp [.st [w1, w2], v, .raw (.bool ok)] ∧ OT g b1 w1 (.l 1 (rPartSS c.keys)) ∧ OT g b2 w2 (.l 1 (rPartSS c.values)) ∧ OT g b3 v (.l 1 (ints lg))
theorem lend_tok {ok : Bool} {c : LCell} {lg : List Int} {f : FuncId} {xs ys : List X} {g : H2} (hl : Lents g xs ys) (h : WC2 P W0 f ys g.bare (fun y g' => g.bare.le g' ∧ ∃ bs, RTok ok c lg y g' bs ∧ Bl (hn g .mk) (hn g' .mk) bs)) :
  WC2 P W0 f xs g (fun y g' => g.le g' ∧ ∃ bs, RTok ok c lg y g' bs ∧ Bl (hn g .mk) (hn g' .mk) bs) := by
 refine WC2.lendTree hl h ?_ ?_ ?_
 ·rintro x g' g2 bs ⟨w1, w2, v, b1, b2, b3, rfl, rfl, o1, o2, o3⟩ hb
  exact ⟨w1, w2, v, b1, b2, b3, rfl, rfl, o1.frame fun b h => hb b (by simp [h]), o2.frame fun b h => hb b (by simp [h]), o3.frame fun b h => hb b (by simp [h])⟩
 ·rintro x g' bs ⟨w1, w2, v, b1, b2, b3, rfl, rfl, o1, o2, o3⟩ b hb
  simp only [List.mem_append] at hb
  rcases hb with (h | h) | h
  ·exact o1.rows b h
  ·exact o2.rows b h
  ·exact o3.rows b h
 ·rintro x g' bs ⟨w1, w2, v, b1, b2, b3, rfl, rfl, o1, o2, o3⟩ h g2
  obtain ⟨u1, rfl⟩ := o1.israw
  obtain ⟨u2, rfl⟩ := o2.israw
  obtain ⟨u3, rfl⟩ := o3.israw
  refine .tp fun x hx => ?_
  simp only [List.mem_cons, List.not_mem_nil, or_false] at hx
  rcases hx with rfl | rfl | rfl
  ·refine .st fun x hx => ?_
   simp only [List.mem_cons, List.not_mem_nil, or_false] at hx
   rcases hx with rfl | rfl <;> exact .raw
  ·exact .raw
  ·exact .raw
theorem tokenA_new {F : Nat → Adr} {m : LModel} {fp : Adr} {past : List LCell} {t : Nat} {g : H2} (ht : ModT m) (hp : ∀ c ∈ past, CellT m c) (hpl : (past.length : Int) < m.context) (htk : t < m.embed.length) (hsz : m.embed.length ≤ 1048576) :
  WC2 Tryz.prog W0 64 [.st (xRun F m (.pointer none)), .sl fp 2 (rCellS past), .raw (.int .i64 t)] g (fun y g' => g.le g' ∧ ∃ bs, RTok true (cellI m past t) (logitsI m past t) y g' bs ∧ Bl (hn g .mk) (hn g' .mk) bs) := by
 refine (tokenA_ok (F := F) (p := none) (r := 0) (s := 0) Mt.none ht hp hpl htk hsz).mono ?_
 rintro x g' ⟨h1, _, w1, w2, v, b1, b2, b3, rfl, o1, o2, o3, bl⟩
 exact ⟨OnM.toLe h1 (fun b e => by cases e), _, ⟨w1, w2, v, b1, b2, b3, rfl, rfl, o1, o2, o3⟩, bl⟩
theorem tp_all2 {p : Nat → Prop} {a b : X} (h : AllB p (.tp [a, b])) : AllB p b := by
 cases h with
 | tp h => exact h b (by simp)
theorem sumN_bd {α : Type} {f : α → Nat} {B : Nat} : ∀ {l : List α}, (∀ x ∈ l, f x ≤ B) → sumN f l ≤ l.length * B
 | [], _ => Nat.zero_le _
 | a :: l, h => by
  have h1 := h a (by simp)
  have h2 := sumN_bd (l := l) (fun x hx => h x (by simp [hx]))
  rw [sumN, List.length_cons, Nat.add_mul, Nat.one_mul]
  omega
theorem getD_of_mem {α : Type} [Inhabited α] {l : List α} {x : α} (h : x ∈ l) : ∃ i, i < l.length ∧ l.getD i default = x := by
 obtain ⟨i, hi, e⟩ := List.getElem_of_mem h
 exact ⟨i, hi, by rw [List.getD_eq_getElem?_getD, List.getElem?_eq_getElem hi]; exact e⟩
theorem partS_sz {m : LModel} {l : List LPart} (ht : ModT m) (h : partsB l m.heads (Int.tdiv m.dim m.heads) = true) : szPartS l ≤ 18 ∧ fitPartS l := by
 obtain ⟨hl, hv⟩ := parts_t ht h
 have hh := ht.heads
 have h8 : ∀ x ∈ l, szPart x ≤ 8 := fun x hx => by
  obtain ⟨i, hi, rfl⟩ := getD_of_mem hx
  have := (part_t (hv i hi).1).2.1
  unfold szPart
  omega
 have := sumN_bd h8
 refine ⟨by unfold szPartS; omega, by omega, fun x hx => by have := h8 x hx; unfold szPart at this; unfold fitPart; omega⟩
theorem partSS_sz {m : LModel} {l : List (List LPart)} (ht : ModT m) (h : PartsM m l) (hl : l.length ≤ 2) : szPartSS l ≤ 38 ∧ fitPartSS l := by
 have h8 : ∀ x ∈ l, szPartS x ≤ 18 := fun x hx => by
  obtain ⟨i, hi, rfl⟩ := getD_of_mem hx
  exact (partS_sz ht (h i hi)).1
 have := sumN_bd h8
 refine ⟨by unfold szPartSS; omega, by omega, fun x hx => by
  obtain ⟨i, hi, rfl⟩ := getD_of_mem hx
  exact (partS_sz ht (h i hi)).2⟩
theorem cell_sz {m : LModel} {c : LCell} (ht : ModT m) (h : CellT m c) : szCell c ≤ 76 ∧ fitCell c := by
 obtain ⟨h1, h2, h3, h4⟩ := h
 have hn := ht.nl
 have a := partSS_sz ht h3 (by omega)
 have b := partSS_sz ht h4 (by omega)
 exact ⟨by unfold szCell; omega, a.2, b.2⟩
end Go.Bi
end
section
set_option maxRecDepth 20000
set_option maxHeartbeats 8000000
namespace Go.Bi
open Go.Proofs
open Go.Ai (wrap_i64 Heap)
variable {W0 : World} {P : Program}
theorem markModel_treeJ {N : Nat} {c : LModel} {h : H2} {k0 : Int} {bs : List Nat} {ys : List X} (o : OTs h bs ys (eModel c)) (bl : Bl N (hn h .mk) bs) (hk : 0 ≤ k0 ∧ k0 + 64 * szModel c ≤ 4611686018427387904) : WC2 Tryz.prog W0 19 [.st ys, .raw (.int .i64 k0)] h (fun r h' => ∃ (k1 : Int) (c' : LModel), r = .raw (.int .i64 k1) ∧ k0 ≤ k1 ∧ k1 ≤ k0 + 64 * szModel c ∧ OTs h' bs ys (eModel c') ∧ (True) ∧ hn h .mk ≤ hn h' .mk ∧ ∀ b, b < hn h .mk → b ∉ bs → h'.get b = h.get b) := by
 obtain ⟨b3, s3, b4, s4, b5, s5, b6, s6, b8, s8, b9, s9, b12, s12, b13, s13, rfl, rfl, o3, o4, o5, o6, o8, o9, o12, o13⟩ := invModel o
 refine (markModel_ok (c := c) o3 o4 o5 o6 o8 o9 o12 o13 bl hk).mono ?_
 rintro r h' ⟨k1, z3, z4, z5, z6, z8, z9, z12, z13, h1, h2, h3, ⟨p3, p4, p5, p6, p8, p9, p12, p13⟩, h4, h5, h6⟩
 exact ⟨k1, { c with merges := z3, embed := z4, layers := z5, gainEnd := z6, head := { c.head with rows := z8, scales := z9 }, turns := { c.turns with cos := z12, sin := z13 } }, h1, h2, h3, outModel (c := { c with merges := z3, embed := z4, layers := z5, gainEnd := z6, head := { c.head with rows := z8, scales := z9 }, turns := { c.turns with cos := z12, sin := z13 } }) p3 p4 p5 p6 p8 p9 p12 p13, h4, h5, h6⟩
end Go.Bi
end
section
set_option maxRecDepth 20000
namespace Go.Bi
open Go.Proofs
open Go.Ai (wrap_i64 Heap)
variable {W0 : World} {P : Program}
theorem eqIntS_mix {g : H2} {b : List Nat} {x : X} {f : Adr} {zs : List Int} (o : OT g b x (.l 1 (ints zs))) (hn0 : zs.length ≤ 9223372036854775807) : PW Tryz.prog W0 16 [x, .sl f 1 (ints zs)] g (fun y => y = .raw (.bool true)) := by
 obtain ⟨f', hf'⟩ := o.lent
 exact PW.lend (.cons hf' (.cons (fz_self rfl) .nil)) (eqIntS_pw hn0) (fun y h => by subst h; exact .raw)
theorem eqCellS_tree {g : H2} {b b' : List Nat} {x x' : X} {zs : List LCell} (o : OT g b x (.l 2 (rCellS zs))) (o' : OT g b' x' (.l 2 (rCellS zs))) (hf : fitCellS zs) : PW Tryz.prog W0 18 [x, x'] g (fun y => y = .raw (.bool true)) := by
 obtain ⟨f, hf1⟩ := o.lent
 obtain ⟨f', hf2⟩ := o'.lent
 exact PW.lend (.cons hf1 (.cons hf2 .nil)) (eqCellS_pw hf) (fun y h => by subst h; exact .raw)
end Go.Bi
end
section
set_option maxRecDepth 20000
namespace Go.Bi
open Go.Proofs
open Go.Ai (wrap_i64)
variable {W0 : World} {P : Program}
set_option maxHeartbeats 4000000
theorem heldCell_ok {c : LCell} {k0 k1 k2 : Int} (h0 : ∀ f g, PW Tryz.prog W0 77 [.sl f 1 (rPartSS c.keys), .raw (.int .i64 k0)] g (fun y => y = .raw (.int .i64 k1))) (h1 : ∀ f g, PW Tryz.prog W0 77 [.sl f 1 (rPartSS c.values), .raw (.int .i64 k1)] g (fun y => y = .raw (.int .i64 k2))) (p1 : 0 ≤ k1) (p2 : 0 ≤ k2) : ∀ F g, PW Tryz.prog W0 23 [.st (xCell F c), .raw (.int .i64 k0)] g (fun y => y = .raw (.int .i64 k2)) := by
 intro F h
 refine PW.scalar ?_
 refine begins [[0, 1], [1, 2], [1, 2], [], [1, 2], [1], [], [1]] Tryz.func23 rfl (rs := [.tmp 4]) rfl rfl ?_
 intro wf
 have q1 : ¬ k1 < 0 := by omega
 have q2 : ¬ k2 < 0 := by omega
 repeat (first | rw [ko] | rw [kr] | simp -dsimp -implicitDefEqProofs only [go_sem, sQ1])
 refine pw_intro (h0 _ _) ?_
 rintro _ n0 hn0 rfl
 repeat (first | rw [ko] | rw [kr] | simp -dsimp -implicitDefEqProofs only [go_sem, sQ1, q1])
 refine pw_intro (h1 _ _) ?_
 rintro _ n1 hn1 rfl
 repeat (first | rw [ko] | rw [kr] | simp -dsimp -implicitDefEqProofs only [go_sem, sQ1, q2])
 exact ⟨zale, ⟨_, rfl⟩, rfl⟩
theorem markCell_ok {N : Nat} {c : LCell} {h : H2} {k0 : Int} {b0 b1 : List Nat} {s0 s1 : X} (o0 : OT h b0 s0 (.l 1 (rPartSS c.keys))) (o1 : OT h b1 s1 (.l 1 (rPartSS c.values))) (bl : Bl N (hn h .mk) (b0 ++ b1)) (hk : 0 ≤ k0 ∧ k0 + 64 * szCell c ≤ 4611686018427387904) : WC2 Tryz.prog W0 21 [.st [s0, s1], .raw (.int .i64 k0)] h (fun r h' => ∃ (k1 : Int) (z0 : List (List LPart)) (z1 : List (List LPart)), r = .raw (.int .i64 k1) ∧ k0 ≤ k1 ∧ k1 ≤ k0 + 64 * szCell c ∧ (OT h' b0 s0 (.l 1 (rPartSS z0)) ∧ OT h' b1 s1 (.l 1 (rPartSS z1))) ∧ (∀ F g, PW Tryz.prog W0 23 [.st (xCell F { c with keys := z0, values := z1 }), .raw (.int .i64 k0)] g (fun y => y = .raw (.int .i64 k1))) ∧ hn h .mk ≤ hn h' .mk ∧ ∀ b, b < hn h .mk → b ∉ (b0 ++ b1) → h'.get b = h.get b) := by
 unfold szCell at *
 obtain ⟨bl0, rb0, D0⟩ := bl.split
 have bl1 := rb0
 have lj0 := bl0
 have lj1 := bl1
 refine begins [[0, 1], [1, 2], [1, 2], [1]] Tryz.func21 rfl (rs := [.tmp 4]) rfl rfl ?_
 intro wf
 repeat (first | rw [ko] | rw [kr] | simp -dsimp -implicitDefEqProofs only [go_sem, sQ1])
 replace o0 := fun k => OT.keep o0 (H2.le_push1 h k) lj0
 replace o1 := fun k => OT.keep o1 (H2.le_push1 h k) lj1
 refine wz_intro (markPartSS_tree (o0 _) (bl0.wide (Nat.le_refl _) (by simp only [hn_push]; omega)) ⟨by omega, by omega⟩) ?_
 rintro _ g0 ⟨k1, z0, rfl, lo0, hi0, d0, hd0, n0, fr0⟩
 simp only [hn_push] at n0
 have a0 : hg g0 (hn h .mk) .mk = _ := fr0 (hn h .mk) (by simp only [hn_push]; omega) (fun hb => by have := (bl0.2 _ hb).2; omega)
 replace a0 : hg g0 (hn h .mk) .mk = hg (h.push _) (hn h .mk) .mk := a0
 simp -dsimp -implicitDefEqProofs only [go_sem, hoo] at a0
 replace o1 := OT.frame (g' := g0) (o1 _) fun b hb => fr0 b (by have := (lj1.2 b hb).2; simp only [hn_push]; omega) (fun hx => D0 b hx (by simp [hb]))
 repeat (first | rw [ko] | rw [kr] | simp -dsimp -implicitDefEqProofs only [go_sem, sQ1, a0])
 refine wz_intro (markPartSS_tree (o1) (bl1.wide (Nat.le_refl _) (by omega)) ⟨by omega, by omega⟩) ?_
 rintro _ g1 ⟨k2, z1, rfl, lo1, hi1, d1, hd1, n1, fr1⟩
 have a1 : hg g1 (hn h .mk) .mk = _ := fr1 (hn h .mk) (by omega) (fun hb => by have := (bl1.2 _ hb).2; omega)
 replace a1 : hg g1 (hn h .mk) .mk = hg g0 (hn h .mk) .mk := a1
 simp -dsimp -implicitDefEqProofs only [go_sem, a0] at a1
 replace d0 := OT.frame (g' := g1) d0 fun b hb => fr1 b (by have := (lj0.2 b hb).2; omega) (fun hx => D0 b (by simp [hb]) (by first | (simp [hx]; done) | (simp only [List.mem_append] at hx ⊢; rcases hx with hx | hx <;> simp [hx])))
 repeat (first | rw [ko] | rw [kr] | simp -dsimp -implicitDefEqProofs only [go_sem])
 refine ⟨k2, z0, z1, rfl, by omega, by omega, ⟨d0, d1⟩, heldCell_ok hd0 hd1 (by omega) (by omega), by omega, fun b hb hnb => ?_⟩
 simp only [List.mem_append, not_or] at hnb
 rw [fr1 b (by omega) hnb.2]
 rw [fr0 b (by simp only [hn_push]; omega) hnb.1]
 simp only [H2.push]; rw [if_neg (by unfold hn at hb; omega)]
theorem shCell {g : H2} {bs : List Nat} {ys : List X} {c : LCell} (o : OTs g bs ys (eCell c)) : ∃ s0 s1 , ys = [s0, s1] ∧ (cellsX s0 = some [s0] ∧ okX s0 = true ∧ isTpX s0 = false) ∧ (cellsX s1 = some [s1] ∧ okX s1 = true ∧ isTpX s1 = false) := by
 obtain ⟨b0, s0, b1, s1, rfl, rfl, o0, o1⟩ := invCell o
 exact ⟨s0, s1, rfl, o0.cell, o1.cell⟩
theorem markCell_treeJ {N : Nat} {c : LCell} {h : H2} {k0 : Int} {bs : List Nat} {ys : List X} (o : OTs h bs ys (eCell c)) (bl : Bl N (hn h .mk) bs) (hk : 0 ≤ k0 ∧ k0 + 64 * szCell c ≤ 4611686018427387904) : WC2 Tryz.prog W0 21 [.st ys, .raw (.int .i64 k0)] h (fun r h' => ∃ (k1 : Int) (c' : LCell), r = .raw (.int .i64 k1) ∧ k0 ≤ k1 ∧ k1 ≤ k0 + 64 * szCell c ∧ OTs h' bs ys (eCell c') ∧ (∀ F g, PW Tryz.prog W0 23 [.st (xCell F c'), .raw (.int .i64 k0)] g (fun y => y = .raw (.int .i64 k1))) ∧ hn h .mk ≤ hn h' .mk ∧ ∀ b, b < hn h .mk → b ∉ bs → h'.get b = h.get b) := by
 obtain ⟨b0, s0, b1, s1, rfl, rfl, o0, o1⟩ := invCell o
 refine (markCell_ok (c := c) o0 o1 bl hk).mono ?_
 rintro r h' ⟨k1, z0, z1, h1, h2, h3, ⟨p0, p1⟩, h4, h5, h6⟩
 exact ⟨k1, { c with keys := z0, values := z1 }, h1, h2, h3, outCell (c := { c with keys := z0, values := z1 }) p0 p1, h4, h5, h6⟩
theorem eqCell_mix {g : H2} {c : LCell} {bs : List Nat} {ys : List X} {F : Nat → Adr} (o : OTs g bs ys (eCell c)) (hf : fitCell c) : PW Tryz.prog W0 15 [.st ys, .st (xCell F c)] g (fun y => y = .raw (.bool true)) := by
 obtain ⟨F', hF⟩ := o.lent
 exact PW.lend (.cons hF (.cons (fz_st (xs := xCell F c) rfl) .nil)) (eqCell_ok hf) (fun y h => by subst h; exact .raw)
theorem heldCell_tree {g : H2} {c : LCell} {bs : List Nat} {ys : List X} {k k' : Int} (o : OTs g bs ys (eCell c)) (hd : ∀ F g, PW Tryz.prog W0 23 [.st (xCell F c), .raw (.int .i64 k)] g (fun y => y = .raw (.int .i64 k'))) : PW Tryz.prog W0 23 [.st ys, .raw (.int .i64 k)] g (fun y => y = .raw (.int .i64 k')) := by
 obtain ⟨F, hF⟩ := o.lent
 exact PW.lend (.cons hF (.cons lent_raw .nil)) (hd F _) (fun y h => by subst h; exact .raw)
end Go.Bi
end
section
set_option maxRecDepth 20000
namespace Go.Bi
open Go.Proofs
open Go.Ai (wrap_i64 Heap)
variable {W0 : World} {P : Program}
set_option maxHeartbeats 8000000
theorem zmallP_of {l : List LPart} (h : szPartS l ≤ 1048576) : smallP l := by
 unfold szPartS at h
 refine ⟨by omega, fun i hi => ?_⟩
 have h1 : (l.getD i default).values.length ≤ sumN szPart l := sum_at (f := szPart) hi
 omega
theorem zmallPP_of {l : List (List LPart)} (h : szPartSS l ≤ 1048576) : smallPP l := by
 unfold szPartSS at h
 refine ⟨by omega, fun i hi => zmallP_of ?_⟩
 have := sum_at (f := szPartS) hi
 omega
theorem zmallC_of {l : List LCell} (h : szCellS l ≤ 1048576) : smallC l := by
 unfold szCellS at h
 refine ⟨by omega, fun i hi => ?_⟩
 have h1 : szPartSS (l.getD i default).keys + szPartSS (l.getD i default).values ≤ sumN szCell l := sum_at (f := szCell) hi
 exact ⟨zmallPP_of (by omega), zmallPP_of (by omega)⟩
def pastB (m : LModel) (past : List LCell) : Bool := past.any fun c => !cellB c m
def stpB (m : LModel) (past : List LCell) (t : Int) : Bool := modelB m && (inI t 0 (255 + (m.merges.length : Int)) && (decide ((past.length : Int) < m.context) && !pastB m past))
def stpC (m : LModel) (past : List LCell) (t : Int) : LCell := if stpB m past t = true then cellI m past t.toNat else ⟨[], []⟩
def stpL (m : LModel) (past : List LCell) (t : Int) : List Int := if stpB m past t = true then logitsI m past t.toNat else []
theorem layers_T {m : LModel} {l : List (List LPart)} (h : layersB l m = true) : l.length = m.layers.length ∧ PartsM m l := by
 unfold layersB at h
 rw [Bool.and_eq_true, Bool.not_eq_true', decide_eq_true_eq] at h
 refine ⟨by omega, fun i hi => ?_⟩
 have := anyL_t (p := fun x => partsB x m.heads (Int.tdiv m.dim m.heads)) h.2 hi
 exact this
theorem past_T {m : LModel} {past : List LCell} (h : pastB m past = false) : ∀ c ∈ past, CellT m c := fun c hc => by
 have h1 : cellB c m = true := by
  have := List.any_eq_false.1 h c hc
  simpa using this
 unfold cellB at h1
 rw [Bool.and_eq_true] at h1
 have a := layers_T h1.1
 have b := layers_T h1.2
 exact ⟨a.1, b.1, a.2, b.2⟩
theorem stp_t {m : LModel} {past : List LCell} {t : Int} (h : stpB m past t = true) : ModT m ∧ (0 ≤ t ∧ t.toNat < m.embed.length) ∧ (past.length : Int) < m.context ∧ ∀ c ∈ past, CellT m c := by
 unfold stpB at h
 simp only [Bool.and_eq_true, Bool.not_eq_true', decide_eq_true_eq] at h
 obtain ⟨h1, h2, h3, h4⟩ := h
 have ht := model_t h1
 have := inI_tt h2
 have he := ht.emb
 have hv : vocI m = 256 + (m.merges.length : Int) := rfl
 exact ⟨ht, by omega, h3, past_T h4⟩
theorem stp_sz {m : LModel} {past : List LCell} {t : Int} : szCell (stpC m past t) ≤ 76 ∧ fitCell (stpC m past t) ∧ (stpL m past t).length ≤ 300 := by
 cases h : stpB m past t
 ·have e1 : stpC m past t = ⟨[], []⟩ := by rw [stpC, h]; rfl
  have e2 : stpL m past t = [] := by rw [stpL, h]; rfl
  rw [e1, e2]
  exact ⟨by decide, ⟨⟨by decide, fun x hx => by cases hx⟩, ⟨by decide, fun x hx => by cases hx⟩⟩, by decide⟩
 ·obtain ⟨ht, h2, h3, h4⟩ := stp_t h
  rw [stpC, stpL, if_pos h, if_pos h]
  have := cell_sz ht (cellI_t (past := past) ht h2.2)
  exact ⟨this.1, this.2, (logits_len ht).2.1⟩
theorem step1_ok {F F' : Nat → Adr} {m : LModel} {c : LCell} {b : Nat} {h : H2} (hbn : b < hn h .mk) (hb : hg h b .mk = some ⟨14, xModel F m⟩) (hd : m.dim = 4 ∨ m.dim = 8) (hk : m.heads = 1 ∨ m.heads = 2) (hs : smallPP c.keys ∧ smallPP c.values) :
  PW Tryz.prog W0 62 [.st (xCell F' c), .raw (.pointer (some ⟨b, 0, none⟩))] h (fun y => y = .raw (.bool (!cellB c m))) := by
 refine PW.scalar ?_
 refine begins [[0, 1], [1, 2]] Tryz.func62 rfl (rs := [.tmp 3]) rfl rfl ?_
 intro wf
 have hne : (b == hn h .mk) = false := zne
 repeat (first | rw [ko] | rw [kr] | simp -dsimp -implicitDefEqProofs only [go_sem, hb, hne, hoo])
 refine pw_intro (cellOk_ok (F := F) (F' := F') hd hk hs) ?_
 rintro _ n1 hn1 rfl
 rw [hn_push] at hn1
 repeat (first | rw [ko] | rw [kr] | simp -dsimp -implicitDefEqProofs only [go_sem])
 exact ⟨le_up (le_push (H2.le.refl _)) (by rw [hn_push]; exact hn1), ⟨_, rfl⟩, rfl⟩
theorem implStep_ok {F : Nat → Adr} {m : LModel} {f : Adr} {past : List LCell} {t : Int} {g : H2} (hs : smallMod m) (hp : smallC past) :
  WC2 Tryz.prog W0 14 [.st (xModel F m), .sl f 2 (rCellS past), .raw (.int .i64 t)] g (fun x g' => g.le g' ∧ ∃ bs, RTok (stpB m past t) (stpC m past t) (stpL m past t) x g' bs ∧ Bl (hn g .mk) (hn g' .mk) bs) := by
 have hmm := hs.1
 have hpl := hp.1
 refine begins [[0, 1, 2], [1, 2, 3, 6], [6], [1, 2, 3, 6]] Tryz.func14 rfl (rs := [.cell 6 37, .tmp 7, .tmp 8]) rfl rfl ?_
 intro wf
 have z1 : (hn g .mk == hn g .mk + 1) = false := by simp
 have bad : ∀ (G : H2) (b : Bool), stpB m past t = b → b = false → g.le G → (g.le G ∧ ∃ bs, RTok (stpB m past t) (stpC m past t) (stpL m past t) (.tp [.st [.raw (.slice none 0 0), .raw (.slice none 0 0)], .raw (.slice none 0 0), .raw (.bool false)]) G bs ∧ Bl (hn g .mk) (hn G .mk) bs) := fun G b h1 h2 h3 => by
  subst h2
  exact ⟨h3, [], ⟨_, _, _, [], [], [], rfl, by rw [h1], by rw [stpC, h1]; exact OT.nil, by rw [stpC, h1]; exact OT.nil, by rw [stpL, h1]; exact OT.nil⟩, Bl.nil⟩
 repeat (first | rw [ko] | rw [kr] | simp -dsimp -implicitDefEqProofs only [go_sem, sQ1, hoo, z1])
 refine pw_intro (implModel_ok (F := F) hs) ?_
 rintro _ n1 hn1 rfl
 simp only [hn_push] at hn1
 have hsb : stpB m past t = (modelB m && (inI t 0 (255 + (m.merges.length : Int)) && (decide ((past.length : Int) < m.context) && !pastB m past))) := rfl
 have fin : ∀ {G : H2}, stpB m past t = false → g.le G → _ := fun {G} a b => bad G _ a rfl b
 cases h1 : modelB m
 ·rw [h1] at hsb
  repeat (first | rw [ko] | rw [kr] | simp -dsimp -implicitDefEqProofs only [go_sem, sQ1, sQ2, hoo])
  exact fin hsb zale
 have hwd := (model_t h1).dim
 have hhd := (model_t h1).heads
 repeat (first | rw [ko] | rw [kr] | simp -dsimp -implicitDefEqProofs only [go_sem, sQ1, hoo, z1])
 refine wz_intro (isToken_ok ⟨by omega, by omega⟩) ?_
 rintro _ _ ⟨rfl, rfl⟩
 cases h2 : inI t 0 (255 + (m.merges.length : Int))
 ·rw [h1, h2] at hsb
  repeat (first | rw [ko] | rw [kr] | simp -dsimp -implicitDefEqProofs only [go_sem, sQ1, sQ2, hoo])
  exact fin hsb zale
 by_cases h3 : m.context ≤ (past.length : Int)
 ·rw [h1, h2, decide_eq_false (by omega)] at hsb
  repeat (first | rw [ko] | rw [kr] | simp -dsimp -implicitDefEqProofs only [go_sem, sQ1, sQ2, hoo, z1, h3])
  exact fin hsb zale
 repeat (first | rw [ko] | rw [kr] | simp -dsimp -implicitDefEqProofs only [go_sem, sQ1, hoo, z1, h3])
 refine pw_intro (containsC_ok (F := 62) (p := fun c => !cellB c m) (caps := [.pointer (some ⟨hn g .mk, 0, none⟩)]) hpl fun i hi F2 h' hle => ?_) ?_
 ·exact step1_ok (F := F) (by have := hle.1; simp only [hn_up] at this; omega) ((hle.2 (hn g .mk) (by simp only [hn_up]; omega)).trans (by simp -dsimp -implicitDefEqProofs only [go_sem, hoo, z1] <;> rfl)) hwd hhd (hp.2 i hi)
 rintro _ n2 hn2 rfl
 simp only [hn_up] at hn2
 cases h4 : pastB m past
 rotate_left
 ·rw [h1, h2, decide_eq_true (by omega), h4] at hsb
  unfold pastB at h4
  repeat (first | rw [ko] | rw [kr] | simp -dsimp -implicitDefEqProofs only [go_sem, sQ1, sQ2, hoo, h4])
  exact fin hsb zale
 rw [h1, h2, decide_eq_true (by omega), h4] at hsb
 replace hsb : stpB m past t = true := hsb
 obtain ⟨ht, ht2, ht3, ht4⟩ := stp_t (m := m) (past := past) (t := t) hsb
 obtain ⟨k, rfl⟩ := Int.eq_ofNat_of_zero_le ht2.1
 rw [stpC, stpL, if_pos hsb, if_pos hsb, hsb]
 rw [Int.toNat_natCast] at ht2
 rw [Int.toNat_natCast]
 unfold pastB at h4
 repeat (first | rw [ko] | rw [kr] | simp -dsimp -implicitDefEqProofs only [go_sem, sQ1, sQ2, hoo, z1, h4])
 refine wz_intro (tokenA_new (F := F) (t := k) ht ht4 ht3 ht2.2 hs.2.1.1) ?_
 rintro _ g3 ⟨l3, _, ⟨w1, w2, v, b1, b2, b3, rfl, rfl, o1, o2, o3⟩, bl⟩
 have c1 := OT.cell o1
 have c2 := OT.cell o2
 have c3 := OT.cell o3
 have nn3 := l3.1
 simp only [hn_up] at nn3
 have row6 : hg g3 (hn g .mk + 1) .mk = some ⟨2, [.raw (.slice none 0 0), .raw (.slice none 0 0)]⟩ := (l3.2 (hn g .mk + 1) (by simp only [hn_up]; omega)).trans (by simp -dsimp -implicitDefEqProofs only [go_sem, hoo] <;> rfl)
 repeat (first | rw [ko] | rw [kr] | simp -dsimp -implicitDefEqProofs only [go_sem, sQ1, sQ2, hoo, c1, c2, c3, row6])
 have L0 : g.le _ := H2.le.trans zale l3
 refine ⟨le_set L0 (by omega), _, ⟨w1, w2, v, b1, b2, b3, rfl, rfl, o1.put bl.left.left (by simp only [hn_up]; omega), o2.put bl.left.right (by simp only [hn_up]; omega), o3.put bl.right (by simp only [hn_up]; omega)⟩, bl.wide (by simp only [hn_up]; omega) (by rw [hn_set]; omega)⟩
theorem specStep_ok {F : Nat → Adr} {m : LModel} {f : Adr} {past : List LCell} {t : Int} {g : H2} (hs : smallMod m) (hp : smallC past) :
  PW Tryz.prog W0 11 [.st (xModel F m), .sl f 2 (rCellS past), .raw (.int .i64 t)] g (fun x => (∃ F1 F2, x = .tp [.st (xCell F1 (stpC m past t)), .sl F2 1 (ints (stpL m past t)), .raw (.bool (stpB m past t))]) ∧ AllB (fun b => hn g .mk ≤ b) x) := by
 refine (PW.of (q := fun b => hn g .mk ≤ b) (Q := fun x => ∃ F1 F2, x = .tp [.st (xCell F1 (stpC m past t)), .sl F2 1 (ints (stpL m past t)), .raw (.bool (stpB m past t))]) ?_).mono fun y ⟨h1, h2⟩ => ⟨h1, h2.imp fun b hb => hb.elim id id⟩
 have hmm := hs.1
 have hpl := hp.1
 refine begins [[0, 1, 2], [1, 2, 3, 6], [6], [1, 2, 3, 6], [6, 9, 10]] Tryz.func11 rfl (rs := [.cell 6 37, .tmp 7, .tmp 8]) rfl rfl ?_
 intro wf
 have z1 : (hn g .mk == hn g .mk + 1) = false := by simp
 have hv : inI t 0 (vocI m - 1) = inI t 0 (255 + (m.merges.length : Int)) := by unfold vocI; congr 1; omega
 have bad : ∀ (G : H2) (b : Nat), stpB m past t = false → g.le G → hn g .mk ≤ b → b < hn G .mk → hg G b .mk = some ⟨1, []⟩ → (g.le G ∧ ∃ y, Fz (fun b => hn g .mk ≤ b) (fun b => hn g .mk ≤ b) G (.tp [.st [.raw (.slice none 0 0), .raw (.slice none 0 0)], .raw (.slice (some ⟨b, 0, none⟩) 0 0), .raw (.bool false)]) y ∧ ∃ F1 F2, y = .tp [.st (xCell F1 (stpC m past t)), .sl F2 1 (ints (stpL m past t)), .raw (.bool (stpB m past t))]) := fun G b h1 h2 h3 h4 h5 => by
  have e1 : stpC m past t = ⟨[], []⟩ := by rw [stpC, h1]; rfl
  have e2 : stpL m past t = [] := by rw [stpL, h1]; rfl
  obtain ⟨f2, z2⟩ := OwnI.fz (p := fun b => hn g .mk ≤ b) (q := fun b => hn g .mk ≤ b) (ownI_mk (N := hn g .mk) (g := G) (b := b) (zs := []) rfl h3 h4 h5) (fun b hb => hb)
  rw [e1, e2, h1]
  exact ⟨h2, _, fz3 (fzs2 (.nil (z := 1)) (.nil (z := 1))) z2 .raw, fun _ _ => .slice none 0 0, f2, rfl⟩
 repeat (first | rw [ko] | rw [kr] | simp -dsimp -implicitDefEqProofs only [go_sem, sQ1, hoo, z1])
 refine pw_intro (specModel_ok (F := F) hs) ?_
 rintro _ n1 hn1 rfl
 simp only [hn_push] at hn1
 have zr : ∀ q, n1 ≤ q → (q == hn g .mk + 1) = false := fun q hq => by simp; omega
 have zl : ∀ q, n1 ≤ q → (hn g .mk + 1 == q) = false := fun q hq => by simp; omega
 have y1 := zl n1 (Nat.le_refl _)
 have rowB : ∀ (G : H2) (q : Nat) (k : OB), n1 ≤ q → hn G .mk = q → hg ((G.push ⟨1, []⟩).set (hn g .mk + 1) k) q .mk = some ⟨1, []⟩ := fun G q k h1 h2 => by
  rw [hg_set, zr q h1, hk_f, hg_push, h2, show (q == q) = true by simp, hk_t]
 have hsb : stpB m past t = (modelB m && (inI t 0 (255 + (m.merges.length : Int)) && (decide ((past.length : Int) < m.context) && !pastB m past))) := rfl
 cases h1 : modelB m
 ·rw [h1] at hsb
  repeat (first | rw [ko] | rw [kr] | simp -dsimp -implicitDefEqProofs only [go_sem, sQ1, sQ2, sQ3, hoo, y1])
  refine bad _ n1 hsb ?_ (by omega) ?_ ?_
  ·repeat (first | exact H2.le.refl _ | assumption | apply le_push | refine le_set ?_ (by omega) | refine le_up ?_ (by first | assumption | (simp only [hn_up, hn_push]; omega)))
  ·simp only [hn_set, hn_push, hn_up]; omega
  ·exact rowB _ _ _ (Nat.le_refl _) rfl
 have hwd := (model_t h1).dim
 have hhd := (model_t h1).heads
 repeat (first | rw [ko] | rw [kr] | simp -dsimp -implicitDefEqProofs only [go_sem, sQ1, hoo, z1])
 refine pw_intro (tokInB_ok (F := F) hmm) ?_
 rintro _ n2 hn2 rfl
 simp only [hn_up] at hn2
 have y2 := zl n2 hn2
 rw [hv]
 cases h2 : inI t 0 (255 + (m.merges.length : Int))
 ·rw [h1, h2] at hsb
  repeat (first | rw [ko] | rw [kr] | simp -dsimp -implicitDefEqProofs only [go_sem, sQ1, sQ2, sQ3, hoo, y2])
  refine bad _ n2 hsb ?_ (by omega) ?_ ?_
  ·repeat (first | exact H2.le.refl _ | assumption | apply le_push | refine le_set ?_ (by omega) | refine le_up ?_ (by first | assumption | (simp only [hn_push]; omega)))
  ·simp only [hn_set, hn_push, hn_up]; omega
  ·exact rowB _ _ _ hn2 rfl
 by_cases h3 : m.context ≤ (past.length : Int)
 ·rw [h1, h2, decide_eq_false (by omega)] at hsb
  repeat (first | rw [ko] | rw [kr] | simp -dsimp -implicitDefEqProofs only [go_sem, sQ1, sQ2, sQ3, hoo, z1, h3, y2])
  refine bad _ n2 hsb ?_ (by omega) ?_ ?_
  ·repeat (first | exact H2.le.refl _ | assumption | apply le_push | refine le_set ?_ (by omega) | refine le_up ?_ (by first | assumption | (simp only [hn_push]; omega)))
  ·simp only [hn_set, hn_push, hn_up]; omega
  ·exact rowB _ _ _ hn2 rfl
 repeat (first | rw [ko] | rw [kr] | simp -dsimp -implicitDefEqProofs only [go_sem, sQ1, hoo, z1, h3])
 refine pw_intro (l18Cells_ok (F := F) hwd hhd hp) ?_
 rintro _ n3 hn3 rfl
 simp only [hn_up] at hn3
 have y3 := zl n3 (by omega)
 cases h4 : pastB m past
 rotate_left
 ·rw [h1, h2, decide_eq_true (by omega), h4] at hsb
  unfold pastB at h4
  repeat (first | rw [ko] | rw [kr] | simp -dsimp -implicitDefEqProofs only [go_sem, sQ1, sQ2, sQ3, hoo, h4, y3])
  refine bad _ n3 hsb ?_ (by omega) ?_ ?_
  ·repeat (first | exact H2.le.refl _ | assumption | apply le_push | refine le_set ?_ (by omega) | refine le_up ?_ (by first | assumption | (simp only [hn_push]; omega)))
  ·simp only [hn_set, hn_push, hn_up]; omega
  ·exact rowB _ _ _ (by omega) rfl
 rw [h1, h2, decide_eq_true (by omega), h4] at hsb
 replace hsb : stpB m past t = true := hsb
 obtain ⟨ht, ht2, ht3, ht4⟩ := stp_t (m := m) (past := past) (t := t) hsb
 have hsz := stp_sz (m := m) (past := past) (t := t)
 obtain ⟨k, rfl⟩ := Int.eq_ofNat_of_zero_le ht2.1
 rw [stpC, stpL, if_pos hsb, if_pos hsb, Int.toNat_natCast] at hsz
 rw [stpC, stpL, if_pos hsb, if_pos hsb, hsb, Int.toNat_natCast]
 rw [Int.toNat_natCast] at ht2
 unfold pastB at h4
 repeat (first | rw [ko] | rw [kr] | simp -dsimp -implicitDefEqProofs only [go_sem, sQ1, hoo, z1, h4])
 have mtG : ∀ K K2 : OB, Mt (some n3) ((((((g.push K).push K2).up n1).up n2).up n3).push (metO 0 0)) 0 0 := fun K K2 b' e => by cases e; exact ⟨by simp only [hn_push, hn_up]; omega, by simp -dsimp -implicitDefEqProofs only [go_sem, hoo]⟩
 refine pm_intro (tokenB_ok (F := F) (b := n3) (r := 0) (s := 0) (past := past) (t := k) (mtG _ _) ht ht4 ht3 ht2.2 hs.2.1.1) ?_
 rintro _ n4 hn4 ⟨⟨F4, f4, rfl⟩, hAll⟩
 simp only [hn_push, hn_up] at hn4
 have zq : (hn g .mk + 1 == n4) = false := zne
 have zq2 : ((some n3 : Option Nat) == some (hn g .mk + 1)) = false := zne
 have zq3 : (hn g .mk + 1 == n3) = false := zne
 repeat (first | rw [ko] | rw [kr] | simp -dsimp -implicitDefEqProofs only [go_sem, sQ1, sQ2, hoo])
 refine wz_intro (copyCell_new (by omega)) ?_
 rintro _ g5 ⟨l5, ys, bs, rfl, o5, bl5⟩
 obtain ⟨b1, s1, b2, s2, rfl, rfl, o1, o2⟩ := invCell o5
 have c1 := OT.cell o1
 have c2 := OT.cell o2
 have nn5 := l5.1
 simp only [hn_set, hn_up, hn_push] at nn5
 have row5 : hg g5 (hn g .mk + 1) .mk = some ⟨2, [.raw (.slice none 0 0), .raw (.slice none 0 0)]⟩ := (l5.2 (hn g .mk + 1) (by simp only [hn_set, hn_up, hn_push]; omega)).trans (by simp -dsimp -implicitDefEqProofs only [go_sem, hoo, zq, hg_gM zq2, zq3] <;> rfl)
 repeat (first | rw [ko] | rw [kr] | simp -dsimp -implicitDefEqProofs only [go_sem, sQ1, sQ2, hoo, c1, c2, row5])
 have L0 : g.le g5 := H2.le.trans ⟨by simp only [hn_set, hn_up, hn_push]; omega, fun c hc => by
  have a1 : (c == n4) = false := zne
  have a2 : ((some n3 : Option Nat) == some c) = false := zne
  have a3 : (c == n3) = false := zne
  have a4 : (c == hn g .mk + 1) = false := zne
  have a5 : (c == hn g .mk) = false := zne
  simp -dsimp -implicitDefEqProofs only [go_sem, a1, hg_gM a2, a3, a4, a5]⟩ l5
 obtain ⟨f1, e1⟩ := OT.fz (p := fun b => hn g .mk ≤ b) (q := fun b => hn g .mk ≤ b) (o1.put (c := hn g .mk + 1) (k := ⟨2, [s1, s2]⟩) bl5.left (by simp only [hn_set, hn_up, hn_push]; omega)) (fun b hb => by have := (bl5.left.2 b hb).1; simp only [hn_set, hn_up, hn_push] at this; omega)
 obtain ⟨f2, e2⟩ := OT.fz (p := fun b => hn g .mk ≤ b) (q := fun b => hn g .mk ≤ b) (o2.put (c := hn g .mk + 1) (k := ⟨2, [s1, s2]⟩) bl5.right (by simp only [hn_set, hn_up, hn_push]; omega)) (fun b hb => by have := (bl5.right.2 b hb).1; simp only [hn_set, hn_up, hn_push] at this; omega)
 exact ⟨le_set L0 (by omega), _, fz3 (fzs2 e1 e2) (.sl ((tp_all2 hAll).imp fun c hc => Nat.le_trans (by simp only [hn_push, hn_up]; omega) hc)) .raw, fun j => if j = 0 then f1 else f2, f4, rfl⟩
end Go.Bi
end
section
set_option maxRecDepth 20000
namespace Go.Bi
open Go.Proofs
open Go.Ai (wrap_i64 Heap)
variable {W0 : World} {P : Program}
theorem implStep_tree {m : LModel} {past : List LCell} {t : Int} {g : H2} {bs bs' : List Nat} {ys : List X} {y : X} (o : OTs g bs ys (eModel m)) (o' : OT g bs' y (.l 2 (rCellS past))) (hs : smallMod m) (hp : smallC past) :
  WC2 Tryz.prog W0 14 [.st ys, y, .raw (.int .i64 t)] g (fun x g' => g.le g' ∧ ∃ ys0 b0 s1 b1, x = .tp [.st ys0, s1, .raw (.bool (stpB m past t))] ∧ OTs g' b0 ys0 (eCell (stpC m past t)) ∧ OT g' b1 s1 (.l 1 (ints (stpL m past t))) ∧ Bl (hn g .mk) (hn g' .mk) b0 ∧ Bl (hn g .mk) (hn g' .mk) b1 ∧ ∀ x ∈ b0, x ∉ b1) := by
 obtain ⟨F, hF⟩ := o.lent
 obtain ⟨f, hf⟩ := o'.lent
 refine (lend_tok (.cons hF (.cons hf (.cons lent_raw .nil))) (implStep_ok (F := F) (f := f) hs hp)).mono ?_
 rintro x g' ⟨h1, _, ⟨w1, w2, v, b1, b2, b3, rfl, rfl, o1, o2, o3⟩, bl⟩
 exact ⟨h1, _, b1 ++ b2, v, b3, rfl, outCell (c := stpC m past t) o1 o2, o3, bl.left, bl.right, bl.disj⟩
theorem specStep_pw {m : LModel} {past : List LCell} {t : Int} {g : H2} {bs bs' : List Nat} {ys : List X} {y : X} (o : OTs g bs ys (eModel m)) (o' : OT g bs' y (.l 2 (rCellS past))) (hs : smallMod m) (hp : smallC past) :
  PW Tryz.prog W0 11 [.st ys, y, .raw (.int .i64 t)] g (fun x => ∃ F1 F2, x = .tp [.st (xCell F1 (stpC m past t)), .sl F2 1 (ints (stpL m past t)), .raw (.bool (stpB m past t))]) := by
 obtain ⟨F, hF⟩ := o.lent
 obtain ⟨f, hf⟩ := o'.lent
 exact (PW.lend (.cons hF (.cons hf (.cons lent_raw .nil))) (specStep_ok (F := F) (f := f) hs hp) (fun y h => h.2)).mono fun y h => h.1
end Go.Bi
end
section
set_option maxRecDepth 20000
set_option maxHeartbeats 8000000
namespace Go.Bi
open Go.Proofs
open Go.Ai (wrap_i64)
variable {W0 : World}
theorem FnExactStepToken_ok {F0 : Nat → Adr} {m : LModel} {f1 : Adr} {q : List LCell} {t : Int} {h : H2} (hf0 : fitModel m) (hf1 : fitCellS q)   : WC2 Tryz.prog W0 3 [.st (xModel F0 m), .sl f1 2 (rCellS q), .raw (.int .i64 t)] h (fun v h' => v = .raw (.bool true)) := by
 refine begins [[0, 1, 2], [1, 2, 3], [1, 2, 3, 7], [1, 2, 3, 7], [], [1, 2, 3, 7], [1, 2, 3, 7], [], [1, 2, 3], [1, 2, 3, 8, 9, 10], [1, 2, 3, 8, 9, 10, 11], [1, 2, 3, 8, 9, 10, 11, 12], [1, 2, 3, 8, 9, 10, 11, 12, 13, 14, 15], [], [1, 2, 3, 8, 9, 10, 11, 12, 13, 14, 15], [], [1, 2, 3, 8, 9, 10, 11, 12, 13, 14, 15], [], [1, 2, 3, 8, 9, 10, 11, 12, 13, 14, 15], [1, 2, 3, 8, 9, 10, 11, 12, 13, 14, 15, 16], [1, 2, 3, 8, 9, 10, 12, 13, 14, 15, 16], [1, 2, 3, 8, 9, 10, 13, 14, 15, 16], [], [1, 2, 3, 8, 9, 10, 13, 14], [1, 2, 3, 8, 9, 10, 13, 14, 17], [1, 2, 3, 8, 9, 10, 13, 14, 17], [1, 2, 3, 8, 9, 10, 13, 14, 17], [1, 2, 3, 8, 9, 10, 13, 14, 17, 18], [1, 2, 3, 8, 9, 10, 13, 14, 17, 18], [], [1, 2, 3, 8, 9, 10, 13, 14, 17, 18], [1, 2, 3, 8, 9, 10, 13, 14, 17, 18], [], [1, 2, 3, 8, 9, 10, 13, 14, 17, 18], [], [1, 2, 3, 8, 9, 10, 13, 14, 17], [8, 9, 10, 13, 14, 17, 19, 20, 21], [], [13, 14, 17], [13, 14, 17, 18], [14, 17, 18], [], [14, 17, 18], [17, 18], [], [17, 18], [], []] Tryz.func3 rfl (rs := [.tmp 6]) rfl rfl ?_
 intro wf
 repeat (first | rw [ko] | rw [kr] | simp -dsimp -implicitDefEqProofs only [go_sem, sQ1])
 refine pw_intro (szModel_ok hf0 ⟨by omega, by omega⟩) ?_
 rintro _ n1 hn1 ⟨k1, rfl, hk1⟩
 have hm1 := hn1
 try simp only [hn_push] at hm1
 repeat (first | rw [ko] | rw [kr] | simp -dsimp -implicitDefEqProofs only [go_sem, sQ1, hoo])
 refine gz_dec (fun q2 => ?_) (fun q2 => ?_)
 ·repeat (first | rw [ko] | rw [kr] | simp -dsimp -implicitDefEqProofs only [go_sem])
  rfl
 repeat (first | rw [ko] | rw [kr] | simp -dsimp -implicitDefEqProofs only [go_sem, sQ1, hoo])
 refine pw_intro (szCellS_pw hf1 ⟨by omega, by omega⟩) ?_
 rintro _ n3 hn3 ⟨k3, rfl, hk3⟩
 have hm3 := hn3
 try simp only [hn_up] at hm3
 repeat (first | rw [ko] | rw [kr] | simp -dsimp -implicitDefEqProofs only [go_sem, sQ1, hoo])
 refine gz_dec (fun q4 => ?_) (fun q4 => ?_)
 ·repeat (first | rw [ko] | rw [kr] | simp -dsimp -implicitDefEqProofs only [go_sem])
  rfl
 have hsz_m : szModel m ≤ 1048576 := by omega
 have hsm := smallMod_of hsz_m
 obtain ⟨hcs, hfc, hpl⟩ := stp_sz (m := m) (past := q) (t := t)
 repeat (first | rw [ko] | rw [kr] | simp -dsimp -implicitDefEqProofs only [go_sem, sQ1, hoo])
 refine wz_intro (toModel_ok (by omega)) ?_
 rintro _ g5 ⟨l5, ys5, b5, rfl, o5, bl5⟩
 try simp only [hn_up] at bl5
 have nn5 := l5.n
 try simp only [hn_up] at nn5
 have LL5 : h.le g5 := H2.le.trans zale l5
 have ln5 := LL5.n
 have row0 := l5.2 (hn h .mk) zau
 simp -dsimp -implicitDefEqProofs only [go_sem, hoo] at row0
 obtain ⟨s5_3, s5_4, s5_5, s5_6, s5_8, s5_9, s5_12, s5_13, rfl, ce5⟩ := shModel o5
 repeat (first | rw [ko] | rw [kr] | simp -dsimp -implicitDefEqProofs only [go_sem, sQ1, hoo])
 refine wz_intro (toCellS_new (by omega)) ?_
 rintro s6 g6 ⟨l6, b6, o6, bl6⟩
 try simp only [hn_push, hn_set, hn_up] at bl6
 have nn6 := l6.n
 try simp only [hn_push, hn_set, hn_up] at nn6
 have LL6 : g5.le g6 := H2.le.trans zale l6
 have ln6 := LL6.n
 replace o5 := o5.keep LL6 (bl5.wide (Nat.le_refl _) (by omega))
 replace row0 := (LL6.2 (hn h .mk) (by omega)).trans row0
 have ce6 := OT.cell o6
 repeat (first | rw [ko] | rw [kr] | simp -dsimp -implicitDefEqProofs only [go_sem, sQ1, hoo])
 refine pw_intro (specStep_pw (o5.keep zale (bl5.wide (Nat.le_refl _) (by omega))) (o6.keep zale (bl6.wide (Nat.le_refl _) (by omega))) hsm (zmallC_of (by omega))) ?_
 rintro _ n7 hn7 ⟨F7r0, F7r1, rfl⟩
 have hm7 := hn7
 try simp only [hn_push, hn_set, hn_up] at hm7
 have ne8 : ((hn h .mk) == (n7)) = false := zne
 have nf8 : ((n7) == (hn h .mk)) = false := zne
 repeat (first | rw [ko] | rw [kr] | simp -dsimp -implicitDefEqProofs only [go_sem, sQ1, sQ2, row0, ne8, hoo])
 refine wz_intro (toModel_ok (by omega)) ?_
 rintro _ g9 ⟨l9, ys9, b9, rfl, o9, bl9⟩
 try simp only [hn_push, hn_set, hn_up] at bl9
 have nn9 := l9.n
 try simp only [hn_push, hn_set, hn_up] at nn9
 have LL9 : g6.le g9 := H2.le.trans zale l9
 have ln9 := LL9.n
 replace row0 := (LL9.2 (hn h .mk) (by omega)).trans row0
 have row1 := l9.2 (n7) zau
 simp -dsimp -implicitDefEqProofs only [go_sem, hoo] at row1
 obtain ⟨s9_3, s9_4, s9_5, s9_6, s9_8, s9_9, s9_12, s9_13, rfl, ce9⟩ := shModel o9
 have ne10 : ((hn h .mk) == (hn g9 .mk)) = false := zne
 have nf10 : ((hn g9 .mk) == (hn h .mk)) = false := zne
 have ne11 : ((n7) == (hn g9 .mk)) = false := zne
 have nf11 : ((hn g9 .mk) == (n7)) = false := zne
 repeat (first | rw [ko] | rw [kr] | simp -dsimp -implicitDefEqProofs only [go_sem, sQ1, sQ2, ce9, hoo])
 refine wz_intro (toCellS_new (by omega)) ?_
 rintro s12 g12 ⟨l12, b12, o12, bl12⟩
 try simp only [hn_push] at bl12
 have nn12 := l12.n
 try simp only [hn_push] at nn12
 have LL12 : g9.le g12 := H2.le.trans zale l12
 have ln12 := LL12.n
 replace o9 := o9.keep LL12 (bl9.wide (Nat.le_refl _) (by omega))
 replace row0 := (LL12.2 (hn h .mk) (by omega)).trans row0
 replace row1 := (LL12.2 (n7) (by omega)).trans row1
 have row2 := l12.2 (hn g9 .mk) zau
 simp -dsimp -implicitDefEqProofs only [go_sem, hoo] at row2
 have ce12 := OT.cell o12
 repeat (first | rw [ko] | rw [kr] | simp -dsimp -implicitDefEqProofs only [go_sem, sQ1, row2, hoo])
 refine wz_intro (implStep_tree (o9.keep zale (bl9.wide (Nat.le_refl _) (by omega))) (o12.keep zale (bl12.wide (Nat.le_refl _) (by omega))) hsm (zmallC_of (by omega))) ?_
 rintro _ g13 ⟨l13, ys13r0, b13r0, s13r1, b13r1, rfl, o13r0, o13r1, bl13r0, bl13r1, dj13⟩
 try simp only [hn_push, hn_set, hn_up] at bl13r0 bl13r1
 have nn13 := l13.n
 try simp only [hn_push, hn_set, hn_up] at nn13
 have LL13 : g12.le g13 := H2.le.trans zale l13
 have ln13 := LL13.n
 replace o9 := o9.keep LL13 (bl9.wide (Nat.le_refl _) (by omega))
 replace o12 := o12.keep LL13 (bl12.wide (Nat.le_refl _) (by omega))
 replace row0 := (LL13.2 (hn h .mk) (by omega)).trans row0
 replace row1 := (LL13.2 (n7) (by omega)).trans row1
 replace row2 := (LL13.2 (hn g9 .mk) (by omega)).trans row2
 obtain ⟨s13r0_0, s13r0_1, rfl, ce13r0⟩ := shCell o13r0
 have ce13r1 := OT.cell o13r1
 have ne14 : ((hn h .mk) == (hn g13 .mk)) = false := zne
 have nf14 : ((hn g13 .mk) == (hn h .mk)) = false := zne
 have ne15 : ((n7) == (hn g13 .mk)) = false := zne
 have nf15 : ((hn g13 .mk) == (n7)) = false := zne
 have ne16 : ((hn g9 .mk) == (hn g13 .mk)) = false := zne
 have nf16 : ((hn g13 .mk) == (hn g9 .mk)) = false := zne
 repeat (first | rw [ko] | rw [kr] | simp -dsimp -implicitDefEqProofs only [go_sem, sQ1, sQ2, ce13r0, row1, ne15, hoo])
 refine pw_intro (eqCell_mix (o13r0.keep zale (bl13r0.wide (Nat.le_refl _) (by omega))) hfc) ?_
 rintro _ n17 hn17 rfl
 have hm17 := hn17
 try simp only [hn_push] at hm17
 repeat (first | rw [ko] | rw [kr] | simp -dsimp -implicitDefEqProofs only [go_sem, sQ1, hoo])
 refine pw_intro (eqIntS_mix (o13r1.keep zale (bl13r1.wide (Nat.le_refl _) (by omega))) (by omega)) ?_
 rintro _ n18 hn18 rfl
 have hm18 := hn18
 try simp only [hn_up] at hm18
 repeat (first | rw [ko] | rw [kr] | simp -dsimp -implicitDefEqProofs only [go_sem, sQ1, hoo])
 refine dq_intro [(0, []), (1, []), (2, [0]), (3, []), (4, [])] (by kernel_rfl) ?_
 repeat (first | rw [ko] | rw [kr] | simp -dsimp -implicitDefEqProofs only [go_sem, sQ1, ne14, ne16, row0, row2, hoo])
 refine wz_intro (toModel_ok (by omega)) ?_
 rintro _ g19 ⟨l19, ys19, b19, rfl, o19, bl19⟩
 try simp only [hn_up] at bl19
 have nn19 := l19.n
 try simp only [hn_up] at nn19
 have LL19 : g13.le g19 := H2.le.trans zale l19
 have ln19 := LL19.n
 replace o9 := o9.keep LL19 (bl9.wide (Nat.le_refl _) (by omega))
 replace o12 := o12.keep LL19 (bl12.wide (Nat.le_refl _) (by omega))
 replace o13r0 := o13r0.keep LL19 (bl13r0.wide (Nat.le_refl _) (by omega))
 replace o13r1 := o13r1.keep LL19 (bl13r1.wide (Nat.le_refl _) (by omega))
 replace row0 := (LL19.2 (hn h .mk) (by omega)).trans row0
 replace row1 := (LL19.2 (n7) (by omega)).trans row1
 replace row2 := (LL19.2 (hn g9 .mk) (by omega)).trans row2
 have row3 := l19.2 (hn g13 .mk) zau
 simp -dsimp -implicitDefEqProofs only [go_sem, hoo] at row3
 obtain ⟨s19_3, s19_4, s19_5, s19_6, s19_8, s19_9, s19_12, s19_13, rfl, ce19⟩ := shModel o19
 rw [kq]
 refine ⟨by simp -dsimp -implicitDefEqProofs only [go_sem, sQ1, row2, hoo], ?_⟩
 repeat (first | rw [ko] | rw [kr] | simp -dsimp -implicitDefEqProofs only [go_sem, hoo])
 refine pw_intro (eqModel_tree (o9.keep zale (bl9.wide (Nat.le_refl _) (by omega))) (o19.keep zale (bl19.wide (Nat.le_refl _) (by omega))) hf0) ?_
 rintro _ n20 hn20 rfl
 have hm20 := hn20
 try simp only [hn_push, hn_set, hn_up] at hm20
 repeat (first | rw [ko] | rw [kr] | simp -dsimp -implicitDefEqProofs only [go_sem, sQ1, hoo])
 refine wz_intro (toCellS_new (by omega)) ?_
 rintro s21 g21 ⟨l21, b21, o21, bl21⟩
 try simp only [hn_up] at bl21
 have nn21 := l21.n
 try simp only [hn_up] at nn21
 have LL21 : g19.le g21 := H2.le.trans zale l21
 have ln21 := LL21.n
 replace o9 := o9.keep LL21 (bl9.wide (Nat.le_refl _) (by omega))
 replace o12 := o12.keep LL21 (bl12.wide (Nat.le_refl _) (by omega))
 replace o13r0 := o13r0.keep LL21 (bl13r0.wide (Nat.le_refl _) (by omega))
 replace o13r1 := o13r1.keep LL21 (bl13r1.wide (Nat.le_refl _) (by omega))
 replace row0 := (LL21.2 (hn h .mk) (by omega)).trans row0
 replace row1 := (LL21.2 (n7) (by omega)).trans row1
 replace row2 := (LL21.2 (hn g9 .mk) (by omega)).trans row2
 replace row3 := (LL21.2 (hn g13 .mk) (by omega)).trans row3
 have ce21 := OT.cell o21
 repeat (first | rw [ko] | rw [kr] | simp -dsimp -implicitDefEqProofs only [go_sem, hoo])
 refine pw_intro (eqCellS_tree (o12.keep zale (bl12.wide (Nat.le_refl _) (by omega))) (o21.keep zale (bl21.wide (Nat.le_refl _) (by omega))) hf1) ?_
 rintro _ n22 hn22 rfl
 have hm22 := hn22
 try simp only [hn_push, hn_set, hn_up] at hm22
 repeat (first | rw [ko] | rw [kr] | simp -dsimp -implicitDefEqProofs only [go_sem, sQ1, row2, hoo])
 refine wz_intro (markModel_treeJ (o9.keep zale (bl9.wide (Nat.le_refl _) (by omega))) (bl9.wide (Nat.le_refl _) zau) ⟨by omega, by omega⟩) ?_
 rintro _ g23 ⟨k23, z23, rfl, lo23, hi23, o9', hd23, nn23, fr23⟩
 try simp only [hn_up] at nn23
 have FR23 : ∀ {b : Nat}, b < hn g21 .mk → b ∉ b9 → g23.get b = g21.get b := fun {b} h1 h2 => (show g23.get b = _ from fr23 b zau h2).trans (by exact zfz)
 replace o12 := o12.frame fun b hb => FR23 (by have := (bl12.2 b hb).2; omega) (fun hx => by have := bl12.2 b hb; have := bl9.2 b hx; omega)
 replace o13r0 := o13r0.frame fun b hb => FR23 (by have := (bl13r0.2 b hb).2; omega) (fun hx => by have := bl13r0.2 b hb; have := bl9.2 b hx; omega)
 replace o13r1 := o13r1.frame fun b hb => FR23 (by have := (bl13r1.2 b hb).2; omega) (fun hx => by have := bl13r1.2 b hb; have := bl9.2 b hx; omega)
 replace o9 := o9'
 replace row0 := (show hg g23 (hn h .mk) .mk = _ from FR23 (by omega) (fun hx => by have := bl9.2 _ hx; omega)).trans row0
 replace row1 := (show hg g23 (n7) .mk = _ from FR23 (by omega) (fun hx => by have := bl9.2 _ hx; omega)).trans row1
 replace row3 := (show hg g23 (hn g13 .mk) .mk = _ from FR23 (by omega) (fun hx => by have := bl9.2 _ hx; omega)).trans row3
 have kp23 : 0 ≤ k23 := by omega
 have kq23 : ¬ k23 < 0 := by omega
 repeat (first | rw [ko] | rw [kr] | simp -dsimp -implicitDefEqProofs only [go_sem, sQ1, hoo])
 refine wz_intro (markCellS_tree (o12.keep zale (bl12.wide (Nat.le_refl _) (by omega))) (bl12.wide (Nat.le_refl _) zau) ⟨by omega, by omega⟩) ?_
 rintro _ g24 ⟨k24, z24, rfl, lo24, hi24, o12', hd24, nn24, fr24⟩
 try simp only [hn_push, hn_set, hn_up] at nn24
 have FR24 : ∀ {b : Nat}, b < hn g23 .mk → b ∉ b12 → g24.get b = g23.get b := fun {b} h1 h2 => (show g24.get b = _ from fr24 b zau h2).trans (by exact zfz)
 replace o13r0 := o13r0.frame fun b hb => FR24 (by have := (bl13r0.2 b hb).2; omega) (fun hx => by have := bl13r0.2 b hb; have := bl12.2 b hx; omega)
 replace o13r1 := o13r1.frame fun b hb => FR24 (by have := (bl13r1.2 b hb).2; omega) (fun hx => by have := bl13r1.2 b hb; have := bl12.2 b hx; omega)
 replace o12 := o12'
 replace row0 := (show hg g24 (hn h .mk) .mk = _ from FR24 (by omega) (fun hx => by have := bl12.2 _ hx; omega)).trans row0
 replace row1 := (show hg g24 (n7) .mk = _ from FR24 (by omega) (fun hx => by have := bl12.2 _ hx; omega)).trans row1
 replace row3 := (show hg g24 (hn g13 .mk) .mk = _ from FR24 (by omega) (fun hx => by have := bl12.2 _ hx; omega)).trans row3
 have kp24 : 0 ≤ k24 := by omega
 have kq24 : ¬ k24 < 0 := by omega
 repeat (first | rw [ko] | rw [kr] | simp -dsimp -implicitDefEqProofs only [go_sem, sQ1, kq24, row1, row3, hoo])
 refine pw_intro (eqCell_mix (o13r0.keep zale (bl13r0.wide (Nat.le_refl _) (by omega))) hfc) ?_
 rintro _ n25 hn25 rfl
 have hm25 := hn25
 try simp only [hn_push, hn_set, hn_up] at hm25
 repeat (first | rw [ko] | rw [kr] | simp -dsimp -implicitDefEqProofs only [go_sem, sQ1, hoo])
 refine pw_intro (eqIntS_mix (o13r1.keep zale (bl13r1.wide (Nat.le_refl _) (by omega))) (by omega)) ?_
 rintro _ n26 hn26 rfl
 have hm26 := hn26
 try simp only [hn_up] at hm26
 repeat (first | rw [ko] | rw [kr] | simp -dsimp -implicitDefEqProofs only [go_sem, sQ1, row3, hoo])
 refine wz_intro (markCell_treeJ (o13r0.keep zale (bl13r0.wide (Nat.le_refl _) (by omega))) (bl13r0.wide (Nat.le_refl _) zau) ⟨by omega, by omega⟩) ?_
 rintro _ g27 ⟨k27, z27, rfl, lo27, hi27, o13r0', hd27, nn27, fr27⟩
 try simp only [hn_up] at nn27
 have FR27 : ∀ {b : Nat}, b < hn g24 .mk → b ∉ b13r0 → g27.get b = g24.get b := fun {b} h1 h2 => (show g27.get b = _ from fr27 b zau h2).trans (by exact zfz)
 replace o13r1 := o13r1.frame fun b hb => FR27 (by have := (bl13r1.2 b hb).2; omega) (fun hx => dj13 b hx hb)
 replace o13r0 := o13r0'
 replace row0 := (show hg g27 (hn h .mk) .mk = _ from FR27 (by omega) (fun hx => by have := bl13r0.2 _ hx; omega)).trans row0
 replace row1 := (show hg g27 (n7) .mk = _ from FR27 (by omega) (fun hx => by have := bl13r0.2 _ hx; omega)).trans row1
 replace row3 := (show hg g27 (hn g13 .mk) .mk = _ from FR27 (by omega) (fun hx => by have := bl13r0.2 _ hx; omega)).trans row3
 have kp27 : 0 ≤ k27 := by omega
 have kq27 : ¬ k27 < 0 := by omega
 repeat (first | rw [ko] | rw [kr] | simp -dsimp -implicitDefEqProofs only [go_sem, sQ1, hoo])
 refine wz_intro (markIntS_tree (o13r1.keep zale (bl13r1.wide (Nat.le_refl _) (by omega))) (bl13r1.wide (Nat.le_refl _) zau) ⟨by omega, by omega⟩) ?_
 rintro _ g28 ⟨k28, z28, rfl, lo28, hi28, o13r1', hd28, nn28, fr28⟩
 try simp only [hn_push, hn_set, hn_up] at nn28
 have FR28 : ∀ {b : Nat}, b < hn g27 .mk → b ∉ b13r1 → g28.get b = g27.get b := fun {b} h1 h2 => (show g28.get b = _ from fr28 b zau h2).trans (by exact zfz)
 replace o13r0 := o13r0.frame fun b hb => FR28 (by have := (bl13r0.2 b hb).2; omega) (fun hx => dj13 b hb hx)
 replace o13r1 := o13r1'
 replace row0 := (show hg g28 (hn h .mk) .mk = _ from FR28 (by omega) (fun hx => by have := bl13r1.2 _ hx; omega)).trans row0
 replace row1 := (show hg g28 (n7) .mk = _ from FR28 (by omega) (fun hx => by have := bl13r1.2 _ hx; omega)).trans row1
 replace row3 := (show hg g28 (hn g13 .mk) .mk = _ from FR28 (by omega) (fun hx => by have := bl13r1.2 _ hx; omega)).trans row3
 have kp28 : 0 ≤ k28 := by omega
 have kq28 : ¬ k28 < 0 := by omega
 repeat (first | rw [ko] | rw [kr] | simp -dsimp -implicitDefEqProofs only [go_sem, sQ1, row3, hoo])
 refine pw_intro (heldCell_tree (o13r0.keep zale (bl13r0.wide (Nat.le_refl _) (by omega))) hd27) ?_
 rintro _ n29 hn29 rfl
 have hm29 := hn29
 try simp only [hn_push, hn_set, hn_up] at hm29
 repeat (first | rw [ko] | rw [kr] | simp -dsimp -implicitDefEqProofs only [go_sem, sQ1, kq27, hoo])
 refine pw_intro (heldIntS_tree (o13r1.keep zale (bl13r1.wide (Nat.le_refl _) (by omega))) hd28) ?_
 rintro _ n30 hn30 rfl
 have hm30 := hn30
 try simp only [hn_up] at hm30
 repeat (first | rw [ko] | rw [kr] | simp -dsimp -implicitDefEqProofs only [go_sem, sQ1, kq28, row0, hoo])
 refine wz_intro (toModel_ok (by omega)) ?_
 rintro _ g31 ⟨l31, ys31, b31, rfl, o31, bl31⟩
 try simp only [hn_up] at bl31
 have nn31 := l31.n
 try simp only [hn_up] at nn31
 have LL31 : g28.le g31 := H2.le.trans zale l31
 have ln31 := LL31.n
 replace o13r0 := o13r0.keep LL31 (bl13r0.wide (Nat.le_refl _) (by omega))
 replace o13r1 := o13r1.keep LL31 (bl13r1.wide (Nat.le_refl _) (by omega))
 replace row1 := (LL31.2 (n7) (by omega)).trans row1
 replace row3 := (LL31.2 (hn g13 .mk) (by omega)).trans row3
 obtain ⟨s31_3, s31_4, s31_5, s31_6, s31_8, s31_9, s31_12, s31_13, rfl, ce31⟩ := shModel o31
 repeat (first | rw [ko] | rw [kr] | simp -dsimp -implicitDefEqProofs only [go_sem, sQ1, hoo])
 refine wz_intro (toCellS_new (by omega)) ?_
 rintro s32 g32 ⟨l32, b32, o32, bl32⟩
 try simp only [hn_push, hn_set, hn_up] at bl32
 have nn32 := l32.n
 try simp only [hn_push, hn_set, hn_up] at nn32
 have LL32 : g31.le g32 := H2.le.trans zale l32
 have ln32 := LL32.n
 replace o13r0 := o13r0.keep LL32 (bl13r0.wide (Nat.le_refl _) (by omega))
 replace o13r1 := o13r1.keep LL32 (bl13r1.wide (Nat.le_refl _) (by omega))
 replace o31 := o31.keep LL32 (bl31.wide (Nat.le_refl _) (by omega))
 replace row1 := (LL32.2 (n7) (by omega)).trans row1
 replace row3 := (LL32.2 (hn g13 .mk) (by omega)).trans row3
 have ce32 := OT.cell o32
 repeat (first | rw [ko] | rw [kr] | simp -dsimp -implicitDefEqProofs only [go_sem, sQ1, hoo])
 refine wz_intro (implStep_tree (o31.keep zale (bl31.wide (Nat.le_refl _) (by omega))) (o32.keep zale (bl32.wide (Nat.le_refl _) (by omega))) hsm (zmallC_of (by omega))) ?_
 rintro _ g33 ⟨l33, ys33r0, b33r0, s33r1, b33r1, rfl, o33r0, o33r1, bl33r0, bl33r1, dj33⟩
 try simp only [hn_push, hn_set, hn_up] at bl33r0 bl33r1
 have nn33 := l33.n
 try simp only [hn_push, hn_set, hn_up] at nn33
 have LL33 : g32.le g33 := H2.le.trans zale l33
 have ln33 := LL33.n
 replace o13r0 := o13r0.keep LL33 (bl13r0.wide (Nat.le_refl _) (by omega))
 replace o13r1 := o13r1.keep LL33 (bl13r1.wide (Nat.le_refl _) (by omega))
 replace row1 := (LL33.2 (n7) (by omega)).trans row1
 replace row3 := (LL33.2 (hn g13 .mk) (by omega)).trans row3
 obtain ⟨s33r0_0, s33r0_1, rfl, ce33r0⟩ := shCell o33r0
 have ce33r1 := OT.cell o33r1
 have ne34 : ((hn h .mk) == (hn g33 .mk)) = false := zne
 have nf34 : ((hn g33 .mk) == (hn h .mk)) = false := zne
 have ne35 : ((n7) == (hn g33 .mk)) = false := zne
 have nf35 : ((hn g33 .mk) == (n7)) = false := zne
 have ne36 : ((hn g9 .mk) == (hn g33 .mk)) = false := zne
 have nf36 : ((hn g33 .mk) == (hn g9 .mk)) = false := zne
 have ne37 : ((hn g13 .mk) == (hn g33 .mk)) = false := zne
 have nf37 : ((hn g33 .mk) == (hn g13 .mk)) = false := zne
 repeat (first | rw [ko] | rw [kr] | simp -dsimp -implicitDefEqProofs only [go_sem, sQ1, sQ2, ce33r0, row1, ne35, hoo])
 refine pw_intro (eqCell_mix (o33r0.keep zale (bl33r0.wide (Nat.le_refl _) (by omega))) hfc) ?_
 rintro _ n38 hn38 rfl
 have hm38 := hn38
 try simp only [hn_push] at hm38
 repeat (first | rw [ko] | rw [kr] | simp -dsimp -implicitDefEqProofs only [go_sem, sQ1, hoo])
 refine pw_intro (eqIntS_mix (o33r1.keep zale (bl33r1.wide (Nat.le_refl _) (by omega))) (by omega)) ?_
 rintro _ n39 hn39 rfl
 have hm39 := hn39
 try simp only [hn_up] at hm39
 repeat (first | rw [ko] | rw [kr] | simp -dsimp -implicitDefEqProofs only [go_sem, sQ1, ne37, row3, hoo])
 refine pw_intro (heldCell_tree (o13r0.keep zale (bl13r0.wide (Nat.le_refl _) (by omega))) hd27) ?_
 rintro _ n40 hn40 rfl
 have hm40 := hn40
 try simp only [hn_up] at hm40
 repeat (first | rw [ko] | rw [kr] | simp -dsimp -implicitDefEqProofs only [go_sem, sQ1, kq27, hoo])
 refine pw_intro (heldIntS_tree (o13r1.keep zale (bl13r1.wide (Nat.le_refl _) (by omega))) hd28) ?_
 rintro _ n41 hn41 rfl
 have hm41 := hn41
 try simp only [hn_up] at hm41
 repeat (first | rw [ko] | rw [kr] | simp -dsimp -implicitDefEqProofs only [go_sem, sQ1, kq28, hoo])
 rfl
end Go.Bi
end
