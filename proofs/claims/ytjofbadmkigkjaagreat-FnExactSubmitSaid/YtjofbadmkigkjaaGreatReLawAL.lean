/- Own lemmas that the theorem of this claim needs: the abstract machine and walks of functions. -/
import Derived.Test.YtjofbadmkigkjaaGreatReLawAK
set_option linter.unusedSimpArgs false
set_option linter.unusedVariables false
open Nat renaming reduceBEq → rq1, reduceAdd → rq2, reduceLeDiff → rq3, reduceMul → rq4
open Int renaming reduceLE → rq5, reduceLT → rq6, reduceBEq → rq7
section
set_option maxRecDepth 20000
namespace Go.Bi
open Go.Proofs
open Go.Ai (wrap_i64 wrap_u8)
variable {W0 : World} {P : Program}
set_option maxHeartbeats 4000000
def HePart (W0 : World) (e : LPart) (a b : Int) : Prop := ∃ (k1 : Int), e.shift = a ∧ (HhIntS W0 e.values (a + 1) k1 ∧ a + 1 ≤ k1) ∧ b = k1 ∧ 0 ≤ a ∧ b ≤ 4611686018427387904
def HhPartS (W0 : World) (c : List LPart) (a b : Int) : Prop := ∀ f g, PW Tryz.prog W0 269 [.sl f 2 (rPartS c), .raw (.int .i64 a)] g (fun y => y = .raw (.int .i64 b))
theorem heldPartS_ch {c : List LPart} {k0 k1 : Int} (h : Ch (HePart W0) k0 c k1) (hl : c.length ≤ 4611686018427387904) : HhPartS W0 c k0 k1 := by
 intro f g
 refine PW.scalar ?_
 refine begins [[0, 1], [0, 1], [0, 1, 5], [0, 1, 5], [0, 1, 5], [], [0, 1, 5], [0, 1, 5], [0, 1, 5], [], [1]] Tryz.func269 rfl (rs := [.tmp 4]) rfl rfl ?_
 intro wf
 repeat (first | rw [ko] | rw [kr] | simp -dsimp -implicitDefEqProofs only [go_sem])
 refine lz_keep [0] (fun m e h' => ∃ (i : Nat) (a : Int), g.le h' ∧ look e 5 .mk = .raw (.int .i64 (i : Nat)) ∧ look e 1 .mk = .raw (.int .i64 a) ∧ m + i = c.length ∧ Ch (HePart W0) a (c.drop i) k1) c.length ?_ ?_
 ·exact ⟨0, k0, H2.le.refl _, zsm, zsm, by omega, h⟩
 rintro m e h' hks ⟨i, a, hle, e5, e1, hm, hc⟩
 simp -dsimp -implicitDefEqProofs only [go_sem, rq1] at hks
 by_cases q1 : (i : Int) < (c.length : Int)
 ·have q2 : i < c.length := by omega
  obtain ⟨b, hb, h0, hc'⟩ := hc.step q2
  obtain ⟨k1, f0, ⟨f1, l1⟩, hbe, ha0, hbt⟩ := hb
  have w1 := wrap_succ q2 (by omega)
  have d0 : decide (¬ (c.getD i default).shift = a) = false := decide_eq_false (fun h => h f0)
  have v0 : IntKind.i64.wrap (a + 1) = a + 1 := by rw [wrap_i64] <;> omega
  have q_1 : ¬ k1 < 0 := by omega
  repeat (first | rw [ko] | rw [kr] | simp -dsimp -implicitDefEqProofs only [go_sem, rq1, rq2, rq3, hks, e5, e1, q1, q2, d0, v0])
  refine pw_intro (f1 _ _) ?_
  rintro _ n1 hn1 rfl
  try simp only [hn_up] at hn1
  repeat (first | rw [ko] | rw [kr] | simp -dsimp -implicitDefEqProofs only [go_sem, rq1, w1, q_1])
  exact nx_keep (m - 1) (by omega) zsm ⟨i + 1, b, (le_up hle (by first | exact hn1 | (simp only [hn_up]; exact hn1))), zsm, by simp -dsimp -implicitDefEqProofs only [go_sem, rq1, hbe], by omega, hc'⟩
 ·repeat (first | rw [ko] | rw [kr] | simp -dsimp -implicitDefEqProofs only [go_sem, rq1, hks, e5, e1, q1])
  exact ⟨hle, ⟨_, rfl⟩, by rw [hc.done (by omega)]⟩
theorem markPartS_tree {N : Nat} {bs : List Nat} {v : X} {zs : List LPart} {h : H2} {k0 : Int} (o : OT h bs v (.l 2 (rPartS zs))) (bl : Bl N (hn h .mk) bs) (hk : 0 ≤ k0 ∧ k0 + 64 * szPartS zs ≤ 4611686018427387904) :
  WC2 Tryz.prog W0 268 [v, .raw (.int .i64 k0)] h (fun r h' => ∃ (k1 : Int) (c' : List LPart), r = .raw (.int .i64 k1) ∧ k0 ≤ k1 ∧ k1 ≤ k0 + 64 * szPartS zs ∧ OT h' bs v (.l 2 (rPartS c')) ∧ HhPartS W0 c' k0 k1 ∧ hn h .mk ≤ hn h' .mk ∧ ∀ b, b < hn h .mk → b ∉ bs → h'.get b = h.get b) := by
 have hE : ∀ a, (ePart a).length = 2 := fun a => rfl
 have hsz : (zs.length : Int) ≤ szPartS zs := by unfold szPartS; omega
 rcases o.inv with ⟨rfl, rfl, he⟩ | ⟨b, bs', cs, rfl, rfl, hb, hcs, hz, oc⟩
 ·have hzs : zs = [] := by cases zs <;> simp_all [rPartS]
  subst hzs
  refine begins [[0, 1], [0, 1], [0, 1, 5], [0, 1, 5], [0, 1, 5], [0, 1, 5], [0, 1, 5], [1]] Tryz.func268 rfl (rs := [.tmp 4]) rfl rfl ?_
  intro wf
  repeat (first | rw [ko] | rw [kr] | simp -dsimp -implicitDefEqProofs only [go_sem])
  refine lz_keep [0] (fun m e h' => h' = h ∧ look e 5 .mk = .raw (.int .i64 0) ∧ look e 1 .mk = .raw (.int .i64 k0)) 0 ?_ ?_
  ·exact ⟨rfl, zsm, zsm⟩
  rintro m e h' hks ⟨rfl, e5, e1⟩
  simp -dsimp -implicitDefEqProofs only [go_sem, rq1] at hks
  have q1 : ¬ ((0 : Int) < ((0 : Nat) : Int)) := by decide
  repeat (first | rw [ko] | rw [kr] | simp -dsimp -implicitDefEqProofs only [go_sem, rq1, rq6, hks, e5, e1])
  exact ⟨k0, [], rfl, by omega, by omega, o, heldPartS_ch .nil (by decide), Nat.le_refl _, fun _ _ _ => rfl⟩
 ·have hlen : (rPartS zs).length = zs.length := rPartS_len
  rw [hlen]
  refine begins [[0, 1], [0, 1], [0, 1, 5], [0, 1, 5], [0, 1, 5], [0, 1, 5], [0, 1, 5], [1]] Tryz.func268 rfl (rs := [.tmp 4]) rfl rfl ?_
  intro wf
  repeat (first | rw [ko] | rw [kr] | simp -dsimp -implicitDefEqProofs only [go_sem])
  refine lz_keep [0] (fun m e h' => ∃ (i : Nat) (a : Int) (c' : List LPart), look e 5 .mk = .raw (.int .i64 (i : Nat)) ∧ look e 1 .mk = .raw (.int .i64 a) ∧ m + i = zs.length ∧ c'.length = i ∧ CurA h b 2 bs' h' (i * 2) ((c'.map ePart).flatten) (((zs.drop i).map ePart).flatten) ∧ Ch (HePart W0) k0 c' a ∧ k0 ≤ a ∧ a ≤ k0 + 64 * (i + sumN szPart (zs.take i))) zs.length ?_ ?_
  ·exact ⟨0, k0, [], zsm, zsm, by omega, rfl, (CurA.start hb oc bl).cast (by omega) rfl rfl, .nil, by omega, by omega⟩
  rintro m e h' hks ⟨i, a, c', e5, e1, hm, hcl, cur0, ch, lo, hi⟩
  simp -dsimp -implicitDefEqProofs only [go_sem, rq1] at hks
  by_cases q1 : (i : Int) < (zs.length : Int)
  ·have q2 : i < zs.length := by omega
   have hd : zs.drop i = zs.getD i default :: zs.drop (i + 1) := by rw [List.drop_eq_getElem_cons q2, List.getD_eq_getElem?_getD, List.getElem?_eq_getElem q2]; rfl
   have hst : sumN szPart (zs.take (i + 1)) = sumN szPart (zs.take i) + szPart (zs.getD i default) := sumN_take (f := szPart) q2
   have hle : sumN szPart (zs.take (i + 1)) ≤ sumN szPart zs := by
    have := sumN_append (f := szPart) (l := zs.take (i + 1)) (m := zs.drop (i + 1))
    rw [List.take_append_drop] at this
    omega
   have hsz2 : szPartS zs = zs.length + sumN szPart zs := rfl
   have hszE : szPart (zs.getD i default) = (zs.getD i default).values.length := rfl
   have w1 := wrap_succ q2 (by omega)
   have hi2 : (0 : Int) ≤ (i : Int) ∧ (i : Int) < (zs.length : Int) := by omega
   replace cur0 := cur0.cast (TB' := [.v (.int .i64 (zs.getD i default).shift), .l 1 (ints (zs.getD i default).values)] ++ ((zs.drop (i + 1)).map ePart).flatten) rfl rfl (by rw [hd]; rfl)
   simp only [List.cons_append, List.nil_append] at cur0
   obtain ⟨cs0, hblk0, hlt0, ⟨_, hget0⟩, hput0⟩ := cur0.put
   obtain ⟨cw0, hw0, cur1⟩ := hput0 (.int .i64 (a)) rfl
   try simp only [set_set] at cur1
   have v0 : IntKind.i64.wrap (a + 1) = a + 1 := by rw [wrap_i64] <;> omega
   obtain ⟨cs1, y1, bb1, hblk1, hlt1, hget1, oy1, bly1, fin1⟩ := cur1.row
   have hy1 := OT.cell oy1
   have es1 := set_same hblk1
   subst es1
   repeat (first | rw [ko] | rw [kr] | simp -dsimp -implicitDefEqProofs only [go_sem, rq1, hks, e5, e1, q1, hi2, Int.toNat_natCast, hoo, hblk0, hw0, v0, hblk1, hget1])
   refine wz_intro (markIntS_tree oy1 bly1 ⟨by omega, by omega⟩) ?_
   rintro _ g1 ⟨k1, x1, rfl, lo1, hi1, o1, hh1, nn1, fr1⟩
   have cur2 := fin1 g1 _ o1 nn1 fr1
   repeat (first | rw [ko] | rw [kr] | simp -dsimp -implicitDefEqProofs only [go_sem, rq1, hoo, w1])
   refine nx_keep (m - 1) (by omega) zsm ⟨i + 1, k1, c' ++ [(⟨a, x1⟩ : LPart)], zsm, zsm, by omega, by simp [hcl], cur2.cast (by omega) (by simp [ePart, List.append_assoc]) rfl, ch.snoc ⟨k1, rfl, ⟨hh1, lo1⟩, rfl, by omega, by omega⟩ (by omega), by omega, by omega⟩
  ·repeat (first | rw [ko] | rw [kr] | simp -dsimp -implicitDefEqProofs only [go_sem, rq1, hks, e5, e1, q1])
   have hi3 : i = zs.length := by omega
   rw [hi3] at cur0 hi
   rw [List.take_length] at hi
   rw [List.drop_length] at cur0
   have hcl2 : (rPartS c').length = zs.length := by rw [rPartS_len, hcl, hi3]
   obtain ⟨f1, f2, f3⟩ := CurA.full (es := rPartS c') cur0 (by rw [hcl2]) (fun e he => by
    obtain ⟨x, _, rfl⟩ := List.mem_map.1 he
    exact hE x)
   rw [hcl2] at f1
   exact ⟨a, c', rfl, lo, hi, f1, heldPartS_ch ch (by rw [hcl]; omega), f2, f3⟩
def HhPartSS (W0 : World) (c : List (List LPart)) (a b : Int) : Prop := ∀ f g, PW Tryz.prog W0 250 [.sl f 1 (rPartSS c), .raw (.int .i64 a)] g (fun y => y = .raw (.int .i64 b))
theorem heldPartSS_ch {c : List (List LPart)} {k0 k1 : Int} (h : Ch (HhPartS W0) k0 c k1) (hl : c.length ≤ 4611686018427387904) : HhPartSS W0 c k0 k1 := by
 intro f g
 refine PW.scalar ?_
 refine begins [[0, 1], [0, 1], [0, 1, 5], [0, 1, 5], [0, 1, 5], [0, 1, 5], [], [1]] Tryz.func250 rfl (rs := [.tmp 4]) rfl rfl ?_
 intro wf
 repeat (first | rw [ko] | rw [kr] | simp -dsimp -implicitDefEqProofs only [go_sem])
 refine lz_keep [0] (fun m e h' => ∃ (i : Nat) (a : Int), g.le h' ∧ look e 5 .mk = .raw (.int .i64 (i : Nat)) ∧ look e 1 .mk = .raw (.int .i64 a) ∧ m + i = c.length ∧ Ch (HhPartS W0) a (c.drop i) k1) c.length ?_ ?_
 ·exact ⟨0, k0, H2.le.refl _, zsm, zsm, by omega, h⟩
 rintro m e h' hks ⟨i, a, hle, e5, e1, hm, hc⟩
 simp -dsimp -implicitDefEqProofs only [go_sem, rq1] at hks
 by_cases q1 : (i : Int) < (c.length : Int)
 ·have q2 : i < c.length := by omega
  obtain ⟨b, hb, h0, hc'⟩ := hc.step q2
  have w1 := wrap_succ q2 (by omega)
  have q3 : ¬ b < 0 := by omega
  repeat (first | rw [ko] | rw [kr] | simp -dsimp -implicitDefEqProofs only [go_sem, rq1, hks, e5, e1, q1, q2])
  refine pw_intro (hb _ _) ?_
  rintro _ n hn1 rfl
  repeat (first | rw [ko] | rw [kr] | simp -dsimp -implicitDefEqProofs only [go_sem, rq1, q3, w1])
  exact nx_keep (m - 1) (by omega) zsm ⟨i + 1, b, le_up hle hn1, zsm, zsm, by omega, hc'⟩
 ·repeat (first | rw [ko] | rw [kr] | simp -dsimp -implicitDefEqProofs only [go_sem, rq1, hks, e5, e1, q1])
  exact ⟨hle, ⟨_, rfl⟩, by rw [hc.done (by omega)]⟩
theorem markPartSS_tree {N : Nat} {bs : List Nat} {v : X} {zs : List (List LPart)} {h : H2} {k0 : Int} (o : OT h bs v (.l 1 (rPartSS zs))) (bl : Bl N (hn h .mk) bs) (hk : 0 ≤ k0 ∧ k0 + 64 * szPartSS zs ≤ 4611686018427387904) :
  WC2 Tryz.prog W0 249 [v, .raw (.int .i64 k0)] h (fun r h' => ∃ (k1 : Int) (c' : List (List LPart)), r = .raw (.int .i64 k1) ∧ k0 ≤ k1 ∧ k1 ≤ k0 + 64 * szPartSS zs ∧ OT h' bs v (.l 1 (rPartSS c')) ∧ HhPartSS W0 c' k0 k1 ∧ hn h .mk ≤ hn h' .mk ∧ ∀ b, b < hn h .mk → b ∉ bs → h'.get b = h.get b) := by
 have hE : ∀ a, (ePartS a).length = 1 := fun a => rfl
 have hsz : (zs.length : Int) ≤ szPartSS zs := by unfold szPartSS; omega
 rcases o.inv with ⟨rfl, rfl, he⟩ | ⟨b, bs', cs, rfl, rfl, hb, hcs, hz, oc⟩
 ·have hzs : zs = [] := by cases zs <;> simp_all [rPartSS]
  subst hzs
  refine begins [[0, 1], [0, 1], [0, 1, 5], [0, 1, 5], [0, 1, 5], [1]] Tryz.func249 rfl (rs := [.tmp 4]) rfl rfl ?_
  intro wf
  repeat (first | rw [ko] | rw [kr] | simp -dsimp -implicitDefEqProofs only [go_sem])
  refine lz_keep [0] (fun m e h' => h' = h ∧ look e 5 .mk = .raw (.int .i64 0) ∧ look e 1 .mk = .raw (.int .i64 k0)) 0 ?_ ?_
  ·exact ⟨rfl, zsm, zsm⟩
  rintro m e h' hks ⟨rfl, e5, e1⟩
  simp -dsimp -implicitDefEqProofs only [go_sem, rq1] at hks
  have q1 : ¬ ((0 : Int) < ((0 : Nat) : Int)) := by decide
  repeat (first | rw [ko] | rw [kr] | simp -dsimp -implicitDefEqProofs only [go_sem, rq1, rq6, hks, e5, e1])
  exact ⟨k0, [], rfl, by omega, by omega, o, heldPartSS_ch .nil (by decide), Nat.le_refl _, fun _ _ _ => rfl⟩
 ·have hlen : (rPartSS zs).length = zs.length := rPartSS_len
  rw [hlen]
  refine begins [[0, 1], [0, 1], [0, 1, 5], [0, 1, 5], [0, 1, 5], [1]] Tryz.func249 rfl (rs := [.tmp 4]) rfl rfl ?_
  intro wf
  repeat (first | rw [ko] | rw [kr] | simp -dsimp -implicitDefEqProofs only [go_sem])
  refine lz_keep [0] (fun m e h' => ∃ (i : Nat) (a : Int) (c' : List (List LPart)), look e 5 .mk = .raw (.int .i64 (i : Nat)) ∧ look e 1 .mk = .raw (.int .i64 a) ∧ m + i = zs.length ∧ c'.length = i ∧ CurA h b 1 bs' h' i ((c'.map ePartS).flatten) (((zs.drop i).map ePartS).flatten) ∧ Ch (HhPartS W0) k0 c' a ∧ k0 ≤ a ∧ a ≤ k0 + 64 * (i + sumN szPartS (zs.take i))) zs.length ?_ ?_
  ·exact ⟨0, k0, [], zsm, zsm, by omega, rfl, CurA.start hb oc bl, .nil, by omega, by omega⟩
  rintro m e h' hks ⟨i, a, c', e5, e1, hm, hcl, cur, ch, lo, hi⟩
  simp -dsimp -implicitDefEqProofs only [go_sem, rq1] at hks
  by_cases q1 : (i : Int) < (zs.length : Int)
  ·have q2 : i < zs.length := by omega
   have hd : zs.drop i = zs.getD i default :: zs.drop (i + 1) := by rw [List.drop_eq_getElem_cons q2, List.getD_eq_getElem?_getD, List.getElem?_eq_getElem q2]; rfl
   have hst : sumN szPartS (zs.take (i + 1)) = sumN szPartS (zs.take i) + szPartS ((zs.getD i default)) := sumN_take (f := szPartS) q2
   have hle : sumN szPartS (zs.take (i + 1)) ≤ sumN szPartS zs := by
    have := sumN_append (f := szPartS) (l := zs.take (i + 1)) (m := zs.drop (i + 1))
    rw [List.take_append_drop] at this
    omega
   have hsz2 : szPartSS zs = zs.length + sumN szPartS zs := rfl
   have w1 := wrap_succ q2 (by omega)
   obtain ⟨cs2, y, bb, hblk, hblt, hget, oy, bly, fin⟩ := (cur.cast (TB' := .l 2 (rPartS (zs.getD i default)) :: ((zs.drop (i + 1)).map ePartS).flatten) rfl rfl (by rw [hd]; rfl)).row
   have hy := OT.cell oy
   have hi2 : (0 : Int) ≤ (i : Int) ∧ (i : Int) < (zs.length : Int) := by omega
   repeat (first | rw [ko] | rw [kr] | simp -dsimp -implicitDefEqProofs only [go_sem, rq1, hks, e5, e1, q1, hi2, hblk, hget, Int.toNat_natCast])
   refine wz_intro (markPartS_tree oy bly ⟨by omega, by omega⟩) ?_
   rintro _ g' ⟨a', z', rfl, lo', hi', o', hh, nn, fr⟩
   have cur' := fin g' _ o' nn fr
   repeat (first | rw [ko] | rw [kr] | simp -dsimp -implicitDefEqProofs only [go_sem, rq1, w1])
   refine nx_keep (m - 1) (by omega) zsm ⟨i + 1, a', c' ++ [z'], zsm, zsm, by omega, by simp [hcl], cur'.cast rfl (by simp [ePartS]) rfl, ch.snoc hh (by omega), by omega, by omega⟩
  ·repeat (first | rw [ko] | rw [kr] | simp -dsimp -implicitDefEqProofs only [go_sem, rq1, hks, e5, e1, q1])
   have hi3 : i = zs.length := by omega
   rw [hi3] at cur hi
   rw [List.take_length] at hi
   rw [List.drop_length] at cur
   have hcl2 : (rPartSS c').length = zs.length := by rw [rPartSS_len, hcl, hi3]
   obtain ⟨f1, f2, f3⟩ := CurA.full (es := rPartSS c') cur (by rw [hcl2]; omega) (fun e he => by
    obtain ⟨x, _, rfl⟩ := List.mem_map.1 he
    exact hE x)
   rw [hcl2] at f1
   exact ⟨a, c', rfl, lo, hi, f1, heldPartSS_ch ch (by rw [hcl]; omega), f2, f3⟩
def HeCell (W0 : World) (e : LCell) (a b : Int) : Prop := ∃ (k0 k1 : Int), (HhPartSS W0 e.keys (a) k0 ∧ a ≤ k0) ∧ (HhPartSS W0 e.values (k0) k1 ∧ k0 ≤ k1) ∧ b = k1 ∧ 0 ≤ a ∧ b ≤ 4611686018427387904
def HhCellS (W0 : World) (c : List LCell) (a b : Int) : Prop := ∀ f g, PW Tryz.prog W0 223 [.sl f 2 (rCellS c), .raw (.int .i64 a)] g (fun y => y = .raw (.int .i64 b))
theorem heldCellS_ch {c : List LCell} {k0 k1 : Int} (h : Ch (HeCell W0) k0 c k1) (hl : c.length ≤ 4611686018427387904) : HhCellS W0 c k0 k1 := by
 intro f g
 refine PW.scalar ?_
 refine begins [[0, 1], [0, 1], [0, 1, 5], [0, 1, 5], [0, 1, 5], [0, 1, 5], [], [0, 1, 5], [0, 1, 5], [], [1]] Tryz.func223 rfl (rs := [.tmp 4]) rfl rfl ?_
 intro wf
 repeat (first | rw [ko] | rw [kr] | simp -dsimp -implicitDefEqProofs only [go_sem])
 refine lz_keep [0] (fun m e h' => ∃ (i : Nat) (a : Int), g.le h' ∧ look e 5 .mk = .raw (.int .i64 (i : Nat)) ∧ look e 1 .mk = .raw (.int .i64 a) ∧ m + i = c.length ∧ Ch (HeCell W0) a (c.drop i) k1) c.length ?_ ?_
 ·exact ⟨0, k0, H2.le.refl _, zsm, zsm, by omega, h⟩
 rintro m e h' hks ⟨i, a, hle, e5, e1, hm, hc⟩
 simp -dsimp -implicitDefEqProofs only [go_sem, rq1] at hks
 by_cases q1 : (i : Int) < (c.length : Int)
 ·have q2 : i < c.length := by omega
  obtain ⟨b, hb, h0, hc'⟩ := hc.step q2
  obtain ⟨k0, k1, ⟨f0, l0⟩, ⟨f1, l1⟩, hbe, ha0, hbt⟩ := hb
  have w1 := wrap_succ q2 (by omega)
  have q_0 : ¬ k0 < 0 := by omega
  have q_1 : ¬ k1 < 0 := by omega
  repeat (first | rw [ko] | rw [kr] | simp -dsimp -implicitDefEqProofs only [go_sem, rq1, rq2, rq3, hks, e5, e1, q1, q2])
  refine pw_intro (f0 _ _) ?_
  rintro _ n0 hn0 rfl
  try simp only [hn_up] at hn0
  repeat (first | rw [ko] | rw [kr] | simp -dsimp -implicitDefEqProofs only [go_sem, rq1, rq2, rq3, q2, q_0])
  refine pw_intro (f1 _ _) ?_
  rintro _ n1 hn1 rfl
  try simp only [hn_up] at hn1
  repeat (first | rw [ko] | rw [kr] | simp -dsimp -implicitDefEqProofs only [go_sem, rq1, w1, q_1])
  exact nx_keep (m - 1) (by omega) zsm ⟨i + 1, b, (le_up (le_up hle (by first | exact hn0 | (simp only [hn_up]; exact hn0))) (by first | exact hn1 | (simp only [hn_up]; exact hn1))), zsm, by simp -dsimp -implicitDefEqProofs only [go_sem, rq1, hbe], by omega, hc'⟩
 ·repeat (first | rw [ko] | rw [kr] | simp -dsimp -implicitDefEqProofs only [go_sem, rq1, hks, e5, e1, q1])
  exact ⟨hle, ⟨_, rfl⟩, by rw [hc.done (by omega)]⟩
theorem markCellS_tree {N : Nat} {bs : List Nat} {v : X} {zs : List LCell} {h : H2} {k0 : Int} (o : OT h bs v (.l 2 (rCellS zs))) (bl : Bl N (hn h .mk) bs) (hk : 0 ≤ k0 ∧ k0 + 64 * szCellS zs ≤ 4611686018427387904) :
  WC2 Tryz.prog W0 222 [v, .raw (.int .i64 k0)] h (fun r h' => ∃ (k1 : Int) (c' : List LCell), r = .raw (.int .i64 k1) ∧ k0 ≤ k1 ∧ k1 ≤ k0 + 64 * szCellS zs ∧ OT h' bs v (.l 2 (rCellS c')) ∧ HhCellS W0 c' k0 k1 ∧ hn h .mk ≤ hn h' .mk ∧ ∀ b, b < hn h .mk → b ∉ bs → h'.get b = h.get b) := by
 have hE : ∀ a, (eCell a).length = 2 := fun a => rfl
 have hsz : (zs.length : Int) ≤ szCellS zs := by unfold szCellS; omega
 rcases o.inv with ⟨rfl, rfl, he⟩ | ⟨b, bs', cs, rfl, rfl, hb, hcs, hz, oc⟩
 ·have hzs : zs = [] := by cases zs <;> simp_all [rCellS]
  subst hzs
  refine begins [[0, 1], [0, 1], [0, 1, 5], [0, 1, 5], [0, 1, 5], [0, 1, 5], [1]] Tryz.func222 rfl (rs := [.tmp 4]) rfl rfl ?_
  intro wf
  repeat (first | rw [ko] | rw [kr] | simp -dsimp -implicitDefEqProofs only [go_sem])
  refine lz_keep [0] (fun m e h' => h' = h ∧ look e 5 .mk = .raw (.int .i64 0) ∧ look e 1 .mk = .raw (.int .i64 k0)) 0 ?_ ?_
  ·exact ⟨rfl, zsm, zsm⟩
  rintro m e h' hks ⟨rfl, e5, e1⟩
  simp -dsimp -implicitDefEqProofs only [go_sem, rq1] at hks
  have q1 : ¬ ((0 : Int) < ((0 : Nat) : Int)) := by decide
  repeat (first | rw [ko] | rw [kr] | simp -dsimp -implicitDefEqProofs only [go_sem, rq1, rq6, hks, e5, e1])
  exact ⟨k0, [], rfl, by omega, by omega, o, heldCellS_ch .nil (by decide), Nat.le_refl _, fun _ _ _ => rfl⟩
 ·have hlen : (rCellS zs).length = zs.length := rCellS_len
  rw [hlen]
  refine begins [[0, 1], [0, 1], [0, 1, 5], [0, 1, 5], [0, 1, 5], [0, 1, 5], [1]] Tryz.func222 rfl (rs := [.tmp 4]) rfl rfl ?_
  intro wf
  repeat (first | rw [ko] | rw [kr] | simp -dsimp -implicitDefEqProofs only [go_sem])
  refine lz_keep [0] (fun m e h' => ∃ (i : Nat) (a : Int) (c' : List LCell), look e 5 .mk = .raw (.int .i64 (i : Nat)) ∧ look e 1 .mk = .raw (.int .i64 a) ∧ m + i = zs.length ∧ c'.length = i ∧ CurA h b 2 bs' h' (i * 2) ((c'.map eCell).flatten) (((zs.drop i).map eCell).flatten) ∧ Ch (HeCell W0) k0 c' a ∧ k0 ≤ a ∧ a ≤ k0 + 64 * (i + sumN szCell (zs.take i))) zs.length ?_ ?_
  ·exact ⟨0, k0, [], zsm, zsm, by omega, rfl, (CurA.start hb oc bl).cast (by omega) rfl rfl, .nil, by omega, by omega⟩
  rintro m e h' hks ⟨i, a, c', e5, e1, hm, hcl, cur0, ch, lo, hi⟩
  simp -dsimp -implicitDefEqProofs only [go_sem, rq1] at hks
  by_cases q1 : (i : Int) < (zs.length : Int)
  ·have q2 : i < zs.length := by omega
   have hd : zs.drop i = zs.getD i default :: zs.drop (i + 1) := by rw [List.drop_eq_getElem_cons q2, List.getD_eq_getElem?_getD, List.getElem?_eq_getElem q2]; rfl
   have hst : sumN szCell (zs.take (i + 1)) = sumN szCell (zs.take i) + szCell (zs.getD i default) := sumN_take (f := szCell) q2
   have hle : sumN szCell (zs.take (i + 1)) ≤ sumN szCell zs := by
    have := sumN_append (f := szCell) (l := zs.take (i + 1)) (m := zs.drop (i + 1))
    rw [List.take_append_drop] at this
    omega
   have hsz2 : szCellS zs = zs.length + sumN szCell zs := rfl
   have hszE : szCell (zs.getD i default) = szPartSS (zs.getD i default).keys + szPartSS (zs.getD i default).values := rfl
   have w1 := wrap_succ q2 (by omega)
   have hi2 : (0 : Int) ≤ (i : Int) ∧ (i : Int) < (zs.length : Int) := by omega
   replace cur0 := cur0.cast (TB' := [.l 1 (rPartSS (zs.getD i default).keys), .l 1 (rPartSS (zs.getD i default).values)] ++ ((zs.drop (i + 1)).map eCell).flatten) rfl rfl (by rw [hd]; rfl)
   simp only [List.cons_append, List.nil_append] at cur0
   obtain ⟨cs0, y0, bb0, hblk0, hlt0, hget0, oy0, bly0, fin0⟩ := cur0.row
   have hy0 := OT.cell oy0
   repeat (first | rw [ko] | rw [kr] | simp -dsimp -implicitDefEqProofs only [go_sem, rq1, hks, e5, e1, q1, hi2, Int.toNat_natCast, hoo, hblk0, hget0])
   refine wz_intro (markPartSS_tree oy0 bly0 ⟨by omega, by omega⟩) ?_
   rintro _ g0 ⟨k0, x0, rfl, lo0, hi0, o0, hh0, nn0, fr0⟩
   have cur1 := fin0 g0 _ o0 nn0 fr0
   obtain ⟨cs1, y1, bb1, hblk1, hlt1, hget1, oy1, bly1, fin1⟩ := cur1.row
   have hy1 := OT.cell oy1
   repeat (first | rw [ko] | rw [kr] | simp -dsimp -implicitDefEqProofs only [go_sem, rq1, q1, hi2, Int.toNat_natCast, hoo, hblk1, hget1])
   refine wz_intro (markPartSS_tree oy1 bly1 ⟨by omega, by omega⟩) ?_
   rintro _ g1 ⟨k1, x1, rfl, lo1, hi1, o1, hh1, nn1, fr1⟩
   have cur2 := fin1 g1 _ o1 nn1 fr1
   repeat (first | rw [ko] | rw [kr] | simp -dsimp -implicitDefEqProofs only [go_sem, rq1, hoo, w1])
   refine nx_keep (m - 1) (by omega) zsm ⟨i + 1, k1, c' ++ [(⟨x0, x1⟩ : LCell)], zsm, zsm, by omega, by simp [hcl], cur2.cast (by omega) (by simp [eCell, List.append_assoc]) rfl, ch.snoc ⟨k0, k1, ⟨hh0, lo0⟩, ⟨hh1, lo1⟩, rfl, by omega, by omega⟩ (by omega), by omega, by omega⟩
  ·repeat (first | rw [ko] | rw [kr] | simp -dsimp -implicitDefEqProofs only [go_sem, rq1, hks, e5, e1, q1])
   have hi3 : i = zs.length := by omega
   rw [hi3] at cur0 hi
   rw [List.take_length] at hi
   rw [List.drop_length] at cur0
   have hcl2 : (rCellS c').length = zs.length := by rw [rCellS_len, hcl, hi3]
   obtain ⟨f1, f2, f3⟩ := CurA.full (es := rCellS c') cur0 (by rw [hcl2]) (fun e he => by
    obtain ⟨x, _, rfl⟩ := List.mem_map.1 he
    exact hE x)
   rw [hcl2] at f1
   exact ⟨a, c', rfl, lo, hi, f1, heldCellS_ch ch (by rw [hcl]; omega), f2, f3⟩
def HhCellSS (W0 : World) (c : List (List LCell)) (a b : Int) : Prop := ∀ f g, PW Tryz.prog W0 180 [.sl f 1 (rCellSS c), .raw (.int .i64 a)] g (fun y => y = .raw (.int .i64 b))
theorem heldCellSS_ch {c : List (List LCell)} {k0 k1 : Int} (h : Ch (HhCellS W0) k0 c k1) (hl : c.length ≤ 4611686018427387904) : HhCellSS W0 c k0 k1 := by
 intro f g
 refine PW.scalar ?_
 refine begins [[0, 1], [0, 1], [0, 1, 5], [0, 1, 5], [0, 1, 5], [0, 1, 5], [], [1]] Tryz.func180 rfl (rs := [.tmp 4]) rfl rfl ?_
 intro wf
 repeat (first | rw [ko] | rw [kr] | simp -dsimp -implicitDefEqProofs only [go_sem])
 refine lz_keep [0] (fun m e h' => ∃ (i : Nat) (a : Int), g.le h' ∧ look e 5 .mk = .raw (.int .i64 (i : Nat)) ∧ look e 1 .mk = .raw (.int .i64 a) ∧ m + i = c.length ∧ Ch (HhCellS W0) a (c.drop i) k1) c.length ?_ ?_
 ·exact ⟨0, k0, H2.le.refl _, zsm, zsm, by omega, h⟩
 rintro m e h' hks ⟨i, a, hle, e5, e1, hm, hc⟩
 simp -dsimp -implicitDefEqProofs only [go_sem, rq1] at hks
 by_cases q1 : (i : Int) < (c.length : Int)
 ·have q2 : i < c.length := by omega
  obtain ⟨b, hb, h0, hc'⟩ := hc.step q2
  have w1 := wrap_succ q2 (by omega)
  have q3 : ¬ b < 0 := by omega
  repeat (first | rw [ko] | rw [kr] | simp -dsimp -implicitDefEqProofs only [go_sem, rq1, hks, e5, e1, q1, q2])
  refine pw_intro (hb _ _) ?_
  rintro _ n hn1 rfl
  repeat (first | rw [ko] | rw [kr] | simp -dsimp -implicitDefEqProofs only [go_sem, rq1, q3, w1])
  exact nx_keep (m - 1) (by omega) zsm ⟨i + 1, b, le_up hle hn1, zsm, zsm, by omega, hc'⟩
 ·repeat (first | rw [ko] | rw [kr] | simp -dsimp -implicitDefEqProofs only [go_sem, rq1, hks, e5, e1, q1])
  exact ⟨hle, ⟨_, rfl⟩, by rw [hc.done (by omega)]⟩
theorem markCellSS_tree {N : Nat} {bs : List Nat} {v : X} {zs : List (List LCell)} {h : H2} {k0 : Int} (o : OT h bs v (.l 1 (rCellSS zs))) (bl : Bl N (hn h .mk) bs) (hk : 0 ≤ k0 ∧ k0 + 64 * szCellSS zs ≤ 4611686018427387904) :
  WC2 Tryz.prog W0 173 [v, .raw (.int .i64 k0)] h (fun r h' => ∃ (k1 : Int) (c' : List (List LCell)), r = .raw (.int .i64 k1) ∧ k0 ≤ k1 ∧ k1 ≤ k0 + 64 * szCellSS zs ∧ OT h' bs v (.l 1 (rCellSS c')) ∧ HhCellSS W0 c' k0 k1 ∧ hn h .mk ≤ hn h' .mk ∧ ∀ b, b < hn h .mk → b ∉ bs → h'.get b = h.get b) := by
 have hE : ∀ a, (eCellS a).length = 1 := fun a => rfl
 have hsz : (zs.length : Int) ≤ szCellSS zs := by unfold szCellSS; omega
 rcases o.inv with ⟨rfl, rfl, he⟩ | ⟨b, bs', cs, rfl, rfl, hb, hcs, hz, oc⟩
 ·have hzs : zs = [] := by cases zs <;> simp_all [rCellSS]
  subst hzs
  refine begins [[0, 1], [0, 1], [0, 1, 5], [0, 1, 5], [0, 1, 5], [1]] Tryz.func173 rfl (rs := [.tmp 4]) rfl rfl ?_
  intro wf
  repeat (first | rw [ko] | rw [kr] | simp -dsimp -implicitDefEqProofs only [go_sem])
  refine lz_keep [0] (fun m e h' => h' = h ∧ look e 5 .mk = .raw (.int .i64 0) ∧ look e 1 .mk = .raw (.int .i64 k0)) 0 ?_ ?_
  ·exact ⟨rfl, zsm, zsm⟩
  rintro m e h' hks ⟨rfl, e5, e1⟩
  simp -dsimp -implicitDefEqProofs only [go_sem, rq1] at hks
  have q1 : ¬ ((0 : Int) < ((0 : Nat) : Int)) := by decide
  repeat (first | rw [ko] | rw [kr] | simp -dsimp -implicitDefEqProofs only [go_sem, rq1, rq6, hks, e5, e1])
  exact ⟨k0, [], rfl, by omega, by omega, o, heldCellSS_ch .nil (by decide), Nat.le_refl _, fun _ _ _ => rfl⟩
 ·have hlen : (rCellSS zs).length = zs.length := rCellSS_len
  rw [hlen]
  refine begins [[0, 1], [0, 1], [0, 1, 5], [0, 1, 5], [0, 1, 5], [1]] Tryz.func173 rfl (rs := [.tmp 4]) rfl rfl ?_
  intro wf
  repeat (first | rw [ko] | rw [kr] | simp -dsimp -implicitDefEqProofs only [go_sem])
  refine lz_keep [0] (fun m e h' => ∃ (i : Nat) (a : Int) (c' : List (List LCell)), look e 5 .mk = .raw (.int .i64 (i : Nat)) ∧ look e 1 .mk = .raw (.int .i64 a) ∧ m + i = zs.length ∧ c'.length = i ∧ CurA h b 1 bs' h' i ((c'.map eCellS).flatten) (((zs.drop i).map eCellS).flatten) ∧ Ch (HhCellS W0) k0 c' a ∧ k0 ≤ a ∧ a ≤ k0 + 64 * (i + sumN szCellS (zs.take i))) zs.length ?_ ?_
  ·exact ⟨0, k0, [], zsm, zsm, by omega, rfl, CurA.start hb oc bl, .nil, by omega, by omega⟩
  rintro m e h' hks ⟨i, a, c', e5, e1, hm, hcl, cur, ch, lo, hi⟩
  simp -dsimp -implicitDefEqProofs only [go_sem, rq1] at hks
  by_cases q1 : (i : Int) < (zs.length : Int)
  ·have q2 : i < zs.length := by omega
   have hd : zs.drop i = zs.getD i default :: zs.drop (i + 1) := by rw [List.drop_eq_getElem_cons q2, List.getD_eq_getElem?_getD, List.getElem?_eq_getElem q2]; rfl
   have hst : sumN szCellS (zs.take (i + 1)) = sumN szCellS (zs.take i) + szCellS ((zs.getD i default)) := sumN_take (f := szCellS) q2
   have hle : sumN szCellS (zs.take (i + 1)) ≤ sumN szCellS zs := by
    have := sumN_append (f := szCellS) (l := zs.take (i + 1)) (m := zs.drop (i + 1))
    rw [List.take_append_drop] at this
    omega
   have hsz2 : szCellSS zs = zs.length + sumN szCellS zs := rfl
   have w1 := wrap_succ q2 (by omega)
   obtain ⟨cs2, y, bb, hblk, hblt, hget, oy, bly, fin⟩ := (cur.cast (TB' := .l 2 (rCellS (zs.getD i default)) :: ((zs.drop (i + 1)).map eCellS).flatten) rfl rfl (by rw [hd]; rfl)).row
   have hy := OT.cell oy
   have hi2 : (0 : Int) ≤ (i : Int) ∧ (i : Int) < (zs.length : Int) := by omega
   repeat (first | rw [ko] | rw [kr] | simp -dsimp -implicitDefEqProofs only [go_sem, rq1, hks, e5, e1, q1, hi2, hblk, hget, Int.toNat_natCast])
   refine wz_intro (markCellS_tree oy bly ⟨by omega, by omega⟩) ?_
   rintro _ g' ⟨a', z', rfl, lo', hi', o', hh, nn, fr⟩
   have cur' := fin g' _ o' nn fr
   repeat (first | rw [ko] | rw [kr] | simp -dsimp -implicitDefEqProofs only [go_sem, rq1, w1])
   refine nx_keep (m - 1) (by omega) zsm ⟨i + 1, a', c' ++ [z'], zsm, zsm, by omega, by simp [hcl], cur'.cast rfl (by simp [eCellS]) rfl, ch.snoc hh (by omega), by omega, by omega⟩
  ·repeat (first | rw [ko] | rw [kr] | simp -dsimp -implicitDefEqProofs only [go_sem, rq1, hks, e5, e1, q1])
   have hi3 : i = zs.length := by omega
   rw [hi3] at cur hi
   rw [List.take_length] at hi
   rw [List.drop_length] at cur
   have hcl2 : (rCellSS c').length = zs.length := by rw [rCellSS_len, hcl, hi3]
   obtain ⟨f1, f2, f3⟩ := CurA.full (es := rCellSS c') cur (by rw [hcl2]; omega) (fun e he => by
    obtain ⟨x, _, rfl⟩ := List.mem_map.1 he
    exact hE x)
   rw [hcl2] at f1
   exact ⟨a, c', rfl, lo, hi, f1, heldCellSS_ch ch (by rw [hcl]; omega), f2, f3⟩
theorem heldStore_ok {c : LStore} {k0 k1 k2 : Int} (h0 : ∀ f g, PW Tryz.prog W0 177 [.sl f 1 (ints c.refs), .raw (.int .i64 k0)] g (fun y => y = .raw (.int .i64 k1))) (h1 : ∀ f g, PW Tryz.prog W0 180 [.sl f 1 (rCellSS c.pages), .raw (.int .i64 k1)] g (fun y => y = .raw (.int .i64 k2))) (p1 : 0 ≤ k1) (p2 : 0 ≤ k2) : ∀ F g, PW Tryz.prog W0 95 [.st (xStore F c), .raw (.int .i64 k0)] g (fun y => y = .raw (.int .i64 k2)) := by
 intro F h
 refine PW.scalar ?_
 refine begins [[0, 1], [1, 2], [1, 2], [], [1, 2], [1], [], [1]] Tryz.func95 rfl (rs := [.tmp 4]) rfl rfl ?_
 intro wf
 have q1 : ¬ k1 < 0 := by omega
 have q2 : ¬ k2 < 0 := by omega
 repeat (first | rw [ko] | rw [kr] | simp -dsimp -implicitDefEqProofs only [go_sem, rq1])
 refine pw_intro (h0 _ _) ?_
 rintro _ n0 hn0 rfl
 repeat (first | rw [ko] | rw [kr] | simp -dsimp -implicitDefEqProofs only [go_sem, rq1, q1])
 refine pw_intro (h1 _ _) ?_
 rintro _ n1 hn1 rfl
 repeat (first | rw [ko] | rw [kr] | simp -dsimp -implicitDefEqProofs only [go_sem, rq1, q2])
 exact ⟨zale, ⟨_, rfl⟩, rfl⟩
theorem markStore_ok {N : Nat} {c : LStore} {h : H2} {k0 : Int} {b0 b1 : List Nat} {s0 s1 : X} (o0 : OT h b0 s0 (.l 1 (ints c.refs))) (o1 : OT h b1 s1 (.l 1 (rCellSS c.pages))) (bl : Bl N (hn h .mk) (b0 ++ b1)) (hk : 0 ≤ k0 ∧ k0 + 64 * szStore c ≤ 4611686018427387904) : WC2 Tryz.prog W0 92 [.st [s0, s1], .raw (.int .i64 k0)] h (fun r h' => ∃ (k1 : Int) (z0 : List Int) (z1 : List (List LCell)), r = .raw (.int .i64 k1) ∧ k0 ≤ k1 ∧ k1 ≤ k0 + 64 * szStore c ∧ (OT h' b0 s0 (.l 1 (ints z0)) ∧ OT h' b1 s1 (.l 1 (rCellSS z1))) ∧ (∀ F g, PW Tryz.prog W0 95 [.st (xStore F { c with refs := z0, pages := z1 }), .raw (.int .i64 k0)] g (fun y => y = .raw (.int .i64 k1))) ∧ hn h .mk ≤ hn h' .mk ∧ ∀ b, b < hn h .mk → b ∉ (b0 ++ b1) → h'.get b = h.get b) := by
 unfold szStore at *
 obtain ⟨bl0, rb0, D0⟩ := bl.split
 have bl1 := rb0
 have lj0 := bl0
 have lj1 := bl1
 refine begins [[0, 1], [1, 2], [1, 2], [1]] Tryz.func92 rfl (rs := [.tmp 4]) rfl rfl ?_
 intro wf
 repeat (first | rw [ko] | rw [kr] | simp -dsimp -implicitDefEqProofs only [go_sem, rq1])
 replace o0 := fun k => OT.keep o0 (H2.le_push1 h k) lj0
 replace o1 := fun k => OT.keep o1 (H2.le_push1 h k) lj1
 refine wz_intro (markIntS_tree (o0 _) (bl0.wide (Nat.le_refl _) (by simp only [hn_push]; omega)) ⟨by omega, by omega⟩) ?_
 rintro _ g0 ⟨k1, z0, rfl, lo0, hi0, d0, hd0, n0, fr0⟩
 simp only [hn_push] at n0
 have a0 : hg g0 (hn h .mk) .mk = _ := fr0 (hn h .mk) (by simp only [hn_push]; omega) (fun hb => by have := (bl0.2 _ hb).2; omega)
 replace a0 : hg g0 (hn h .mk) .mk = hg (h.push _) (hn h .mk) .mk := a0
 simp -dsimp -implicitDefEqProofs only [go_sem, hoo] at a0
 replace o1 := OT.frame (g' := g0) (o1 _) fun b hb => fr0 b (by have := (lj1.2 b hb).2; simp only [hn_push]; omega) (fun hx => D0 b hx (by simp [hb]))
 repeat (first | rw [ko] | rw [kr] | simp -dsimp -implicitDefEqProofs only [go_sem, rq1, a0])
 refine wz_intro (markCellSS_tree (o1) (bl1.wide (Nat.le_refl _) (by omega)) ⟨by omega, by omega⟩) ?_
 rintro _ g1 ⟨k2, z1, rfl, lo1, hi1, d1, hd1, n1, fr1⟩
 have a1 : hg g1 (hn h .mk) .mk = _ := fr1 (hn h .mk) (by omega) (fun hb => by have := (bl1.2 _ hb).2; omega)
 replace a1 : hg g1 (hn h .mk) .mk = hg g0 (hn h .mk) .mk := a1
 simp -dsimp -implicitDefEqProofs only [go_sem, a0] at a1
 replace d0 := OT.frame (g' := g1) d0 fun b hb => fr1 b (by have := (lj0.2 b hb).2; omega) (fun hx => D0 b (by simp [hb]) (by first | (simp [hx]; done) | (rcases List.mem_append.1 hx with hx | hx <;> simp [hx])))
 repeat (first | rw [ko] | rw [kr] | simp -dsimp -implicitDefEqProofs only [go_sem])
 refine ⟨k2, z0, z1, rfl, by omega, by omega, ⟨d0, d1⟩, heldStore_ok hd0 hd1 (by omega) (by omega), by omega, fun b hb hnb => ?_⟩
 simp only [List.mem_append, not_or] at hnb
 rw [fr1 b (by omega) hnb.2]
 rw [fr0 b (by simp only [hn_push]; omega) hnb.1]
 simp only [H2.push]; rw [if_neg (by unfold hn at hb; omega)]
end Go.Bi
end
section
set_option maxRecDepth 20000
namespace Go.Bi
open Go.Proofs
open Go.Ai (wrap_i64 wrap_u8)
variable {W0 : World} {P : Program}
set_option maxHeartbeats 4000000
def HhStringS (W0 : World) (c : List ByteArray) (a b : Int) : Prop := ∀ f g, PW Tryz.prog W0 181 [.sl f 1 (strs c), .raw (.int .i64 a)] g (fun y => y = .raw (.int .i64 b))
def HeRequest (W0 : World) (e : LRequest) (a b : Int) : Prop := ∃ (k1 k5 k7 : Int), e.prompt = a ∧ (HhIntS W0 e.tokens (a + 1) k1 ∧ a + 1 ≤ k1) ∧ e.config.top = k1 ∧ e.config.seed = k1 + 1 ∧ e.config.new = k1 + 1 + 1 ∧ (HhStringS W0 e.config.stops (k1 + 1 + 1 + 1) k5 ∧ k1 + 1 + 1 + 1 ≤ k5) ∧ e.state = IntKind.u64.wrap (k5) ∧ (HhIntS W0 e.table.pages (k5 + 1) k7 ∧ k5 + 1 ≤ k7) ∧ e.table.count = k7 ∧ e.status = k7 + 1 ∧ b = k7 + 1 + 1 ∧ 0 ≤ a ∧ b ≤ 4611686018427387904
def HhRequestS (W0 : World) (c : List LRequest) (a b : Int) : Prop := ∀ f g, PW Tryz.prog W0 96 [.sl f 10 (rRequestS c), .raw (.int .i64 a)] g (fun y => y = .raw (.int .i64 b))
theorem heldRequestS_ch {c : List LRequest} {k0 k1 : Int} (h : Ch (HeRequest W0) k0 c k1) (hl : c.length ≤ 4611686018427387904) : HhRequestS W0 c k0 k1 := by
 intro f g
 refine PW.scalar ?_
 refine begins [[0, 1], [0, 1], [0, 1, 5], [0, 1, 5], [0, 1, 5], [], [0, 1, 5], [0, 1, 5], [0, 1, 5], [], [0, 1, 5], [], [0, 1, 5], [0, 1, 5], [], [0, 1, 5], [0, 1, 5], [], [0, 1, 5], [0, 1, 5], [0, 1, 5], [], [0, 1, 5], [], [0, 1, 5], [0, 1, 5], [0, 1, 5], [], [0, 1, 5], [], [0, 1, 5], [0, 1, 5], [], [0, 1, 5], [1]] Tryz.func96 rfl (rs := [.tmp 4]) rfl rfl ?_
 intro wf
 repeat (first | rw [ko] | rw [kr] | simp -dsimp -implicitDefEqProofs only [go_sem])
 refine lz_keep [0] (fun m e h' => ∃ (i : Nat) (a : Int), g.le h' ∧ look e 5 .mk = .raw (.int .i64 (i : Nat)) ∧ look e 1 .mk = .raw (.int .i64 a) ∧ m + i = c.length ∧ Ch (HeRequest W0) a (c.drop i) k1) c.length ?_ ?_
 ·exact ⟨0, k0, H2.le.refl _, zsm, zsm, by omega, h⟩
 rintro m e h' hks ⟨i, a, hle, e5, e1, hm, hc⟩
 simp -dsimp -implicitDefEqProofs only [go_sem, rq1] at hks
 by_cases q1 : (i : Int) < (c.length : Int)
 ·have q2 : i < c.length := by omega
  obtain ⟨b, hb, h0, hc'⟩ := hc.step q2
  obtain ⟨k1, k5, k7, f0, ⟨f1, l1⟩, f2, f3, f4, ⟨f5, l5⟩, f6, ⟨f7, l7⟩, f8, f9, hbe, ha0, hbt⟩ := hb
  have w1 := wrap_succ q2 (by omega)
  have d0 : decide (¬ (c.getD i default).prompt = a) = false := decide_eq_false (fun h => h f0)
  have v0 : IntKind.i64.wrap (a + 1) = a + 1 := by rw [wrap_i64] <;> omega
  have q_1 : ¬ k1 < 0 := by omega
  have d2 : decide (¬ (c.getD i default).config.top = k1) = false := decide_eq_false (fun h => h f2)
  have v2 : IntKind.i64.wrap (k1 + 1) = k1 + 1 := by rw [wrap_i64] <;> omega
  have d3 : decide (¬ (c.getD i default).config.seed = k1 + 1) = false := decide_eq_false (fun h => h f3)
  have v3 : IntKind.i64.wrap (k1 + 1 + 1) = k1 + 1 + 1 := by rw [wrap_i64] <;> omega
  have d4 : decide (¬ (c.getD i default).config.new = k1 + 1 + 1) = false := decide_eq_false (fun h => h f4)
  have v4 : IntKind.i64.wrap (k1 + 1 + 1 + 1) = k1 + 1 + 1 + 1 := by rw [wrap_i64] <;> omega
  have q_5 : ¬ k5 < 0 := by omega
  have d6 : decide (¬ (c.getD i default).state = IntKind.u64.wrap (k5)) = false := decide_eq_false (fun h => h f6)
  have v6 : IntKind.i64.wrap (k5 + 1) = k5 + 1 := by rw [wrap_i64] <;> omega
  have q_7 : ¬ k7 < 0 := by omega
  have d8 : decide (¬ (c.getD i default).table.count = k7) = false := decide_eq_false (fun h => h f8)
  have v8 : IntKind.i64.wrap (k7 + 1) = k7 + 1 := by rw [wrap_i64] <;> omega
  have d9 : decide (¬ (c.getD i default).status = k7 + 1) = false := decide_eq_false (fun h => h f9)
  have v9 : IntKind.i64.wrap (k7 + 1 + 1) = k7 + 1 + 1 := by rw [wrap_i64] <;> omega
  repeat (first | rw [ko] | rw [kr] | simp -dsimp -implicitDefEqProofs only [go_sem, rq1, rq2, rq3, hks, e5, e1, q1, q2, d0, v0])
  refine pw_intro (f1 _ _) ?_
  rintro _ n1 hn1 rfl
  try simp only [hn_up] at hn1
  repeat (first | rw [ko] | rw [kr] | simp -dsimp -implicitDefEqProofs only [go_sem, rq1, rq2, rq3, q2, q_1, d2, v2, d3, v3, d4, v4])
  refine pw_intro (f5 _ _) ?_
  rintro _ n5 hn5 rfl
  try simp only [hn_up] at hn5
  repeat (first | rw [ko] | rw [kr] | simp -dsimp -implicitDefEqProofs only [go_sem, rq1, rq2, rq3, q2, q_5, d6, v6])
  refine pw_intro (f7 _ _) ?_
  rintro _ n7 hn7 rfl
  try simp only [hn_up] at hn7
  repeat (first | rw [ko] | rw [kr] | simp -dsimp -implicitDefEqProofs only [go_sem, rq1, rq2, rq3, q2, w1, q_7, d8, v8, d9, v9])
  exact nx_keep (m - 1) (by omega) zsm ⟨i + 1, b, zale, zsm, by simp -dsimp -implicitDefEqProofs only [go_sem, rq1, hbe], by omega, hc'⟩
 ·repeat (first | rw [ko] | rw [kr] | simp -dsimp -implicitDefEqProofs only [go_sem, rq1, hks, e5, e1, q1])
  exact ⟨hle, ⟨_, rfl⟩, by rw [hc.done (by omega)]⟩
theorem markRequestS_tree {N : Nat} {bs : List Nat} {v : X} {zs : List LRequest} {h : H2} {k0 : Int} (o : OT h bs v (.l 10 (rRequestS zs))) (bl : Bl N (hn h .mk) bs) (hk : 0 ≤ k0 ∧ k0 + 64 * szRequestS zs ≤ 4611686018427387904) :
  WC2 Tryz.prog W0 93 [v, .raw (.int .i64 k0)] h (fun r h' => ∃ (k1 : Int) (c' : List LRequest), r = .raw (.int .i64 k1) ∧ k0 ≤ k1 ∧ k1 ≤ k0 + 64 * szRequestS zs ∧ OT h' bs v (.l 10 (rRequestS c')) ∧ HhRequestS W0 c' k0 k1 ∧ hn h .mk ≤ hn h' .mk ∧ ∀ b, b < hn h .mk → b ∉ bs → h'.get b = h.get b) := by
 have hE : ∀ a, (eRequest a).length = 10 := fun a => rfl
 have hsz : (zs.length : Int) ≤ szRequestS zs := by unfold szRequestS; omega
 rcases o.inv with ⟨rfl, rfl, he⟩ | ⟨b, bs', cs, rfl, rfl, hb, hcs, hz, oc⟩
 ·have hzs : zs = [] := by cases zs <;> simp_all [rRequestS]
  subst hzs
  refine begins [[0, 1], [0, 1], [0, 1, 5], [0, 1, 5], [0, 1, 5], [0, 1, 5], [0, 1, 5], [0, 1, 5], [0, 1, 5], [0, 1, 5], [0, 1, 5], [0, 1, 5], [0, 1, 5], [0, 1, 5], [0, 1, 5], [0, 1, 5], [0, 1, 5], [0, 1, 5], [0, 1, 5], [0, 1, 5], [0, 1, 5], [1]] Tryz.func93 rfl (rs := [.tmp 4]) rfl rfl ?_
  intro wf
  repeat (first | rw [ko] | rw [kr] | simp -dsimp -implicitDefEqProofs only [go_sem])
  refine lz_keep [0] (fun m e h' => h' = h ∧ look e 5 .mk = .raw (.int .i64 0) ∧ look e 1 .mk = .raw (.int .i64 k0)) 0 ?_ ?_
  ·exact ⟨rfl, zsm, zsm⟩
  rintro m e h' hks ⟨rfl, e5, e1⟩
  simp -dsimp -implicitDefEqProofs only [go_sem, rq1] at hks
  have q1 : ¬ ((0 : Int) < ((0 : Nat) : Int)) := by decide
  repeat (first | rw [ko] | rw [kr] | simp -dsimp -implicitDefEqProofs only [go_sem, rq1, rq6, hks, e5, e1])
  exact ⟨k0, [], rfl, by omega, by omega, o, heldRequestS_ch .nil (by decide), Nat.le_refl _, fun _ _ _ => rfl⟩
 ·have hlen : (rRequestS zs).length = zs.length := rRequestS_len
  rw [hlen]
  refine begins [[0, 1], [0, 1], [0, 1, 5], [0, 1, 5], [0, 1, 5], [0, 1, 5], [0, 1, 5], [0, 1, 5], [0, 1, 5], [0, 1, 5], [0, 1, 5], [0, 1, 5], [0, 1, 5], [0, 1, 5], [0, 1, 5], [0, 1, 5], [0, 1, 5], [0, 1, 5], [0, 1, 5], [0, 1, 5], [0, 1, 5], [1]] Tryz.func93 rfl (rs := [.tmp 4]) rfl rfl ?_
  intro wf
  repeat (first | rw [ko] | rw [kr] | simp -dsimp -implicitDefEqProofs only [go_sem])
  refine lz_keep [0] (fun m e h' => ∃ (i : Nat) (a : Int) (c' : List LRequest), look e 5 .mk = .raw (.int .i64 (i : Nat)) ∧ look e 1 .mk = .raw (.int .i64 a) ∧ m + i = zs.length ∧ c'.length = i ∧ CurA h b 10 bs' h' (i * 10) ((c'.map eRequest).flatten) (((zs.drop i).map eRequest).flatten) ∧ Ch (HeRequest W0) k0 c' a ∧ k0 ≤ a ∧ a ≤ k0 + 64 * (i + sumN szRequest (zs.take i))) zs.length ?_ ?_
  ·exact ⟨0, k0, [], zsm, zsm, by omega, rfl, (CurA.start hb oc bl).cast (by omega) rfl rfl, .nil, by omega, by omega⟩
  rintro m e h' hks ⟨i, a, c', e5, e1, hm, hcl, cur0, ch, lo, hi⟩
  simp -dsimp -implicitDefEqProofs only [go_sem, rq1] at hks
  by_cases q1 : (i : Int) < (zs.length : Int)
  ·have q2 : i < zs.length := by omega
   have hd : zs.drop i = zs.getD i default :: zs.drop (i + 1) := by rw [List.drop_eq_getElem_cons q2, List.getD_eq_getElem?_getD, List.getElem?_eq_getElem q2]; rfl
   have hst : sumN szRequest (zs.take (i + 1)) = sumN szRequest (zs.take i) + szRequest (zs.getD i default) := sumN_take (f := szRequest) q2
   have hle : sumN szRequest (zs.take (i + 1)) ≤ sumN szRequest zs := by
    have := sumN_append (f := szRequest) (l := zs.take (i + 1)) (m := zs.drop (i + 1))
    rw [List.take_append_drop] at this
    omega
   have hsz2 : szRequestS zs = zs.length + sumN szRequest zs := rfl
   have hszE : szRequest (zs.getD i default) = (zs.getD i default).tokens.length + szConfig (zs.getD i default).config + szTable (zs.getD i default).table := rfl
   have hsz_Table : szTable (zs.getD i default).table = (zs.getD i default).table.pages.length := rfl
   have hsz_C : szConfig (zs.getD i default).config = (zs.getD i default).config.stops.length + sumL (zs.getD i default).config.stops := rfl
   have w1 := wrap_succ q2 (by omega)
   have hi2 : (0 : Int) ≤ (i : Int) ∧ (i : Int) < (zs.length : Int) := by omega
   replace cur0 := cur0.cast (TB' := [.v (.int .i64 (zs.getD i default).prompt), .l 1 (ints (zs.getD i default).tokens), .v (.int .i64 (zs.getD i default).config.top), .v (.int .i64 (zs.getD i default).config.seed), .v (.int .i64 (zs.getD i default).config.new), .l 1 (strs (zs.getD i default).config.stops), .v (.int .u64 (zs.getD i default).state), .l 1 (ints (zs.getD i default).table.pages), .v (.int .i64 (zs.getD i default).table.count), .v (.int .i64 (zs.getD i default).status)] ++ ((zs.drop (i + 1)).map eRequest).flatten) rfl rfl (by rw [hd]; rfl)
   simp only [List.cons_append, List.nil_append] at cur0
   obtain ⟨cs0, hblk0, hlt0, ⟨_, hget0⟩, hput0⟩ := cur0.put
   obtain ⟨cw0, hw0, cur1⟩ := hput0 (.int .i64 (a)) rfl
   try simp only [set_set] at cur1
   have v0 : IntKind.i64.wrap (a + 1) = a + 1 := by rw [wrap_i64] <;> omega
   obtain ⟨cs1, y1, bb1, hblk1, hlt1, hget1, oy1, bly1, fin1⟩ := cur1.row
   have hy1 := OT.cell oy1
   have es1 := set_same hblk1
   subst es1
   repeat (first | rw [ko] | rw [kr] | simp -dsimp -implicitDefEqProofs only [go_sem, rq1, hks, e5, e1, q1, hi2, Int.toNat_natCast, hoo, hblk0, hw0, v0, hblk1, hget1])
   refine wz_intro (markIntS_tree oy1 bly1 ⟨by omega, by omega⟩) ?_
   rintro _ g1 ⟨k1, x1, rfl, lo1, hi1, o1, hh1, nn1, fr1⟩
   have cur2 := fin1 g1 _ o1 nn1 fr1
   obtain ⟨cs2, hblk2, hlt2, ⟨_, hget2⟩, hput2⟩ := cur2.put
   obtain ⟨cw2, hw2, cur3⟩ := hput2 (.int .i64 (k1)) rfl
   try simp only [set_set] at cur3
   have v2 : IntKind.i64.wrap (k1 + 1) = k1 + 1 := by rw [wrap_i64] <;> omega
   obtain ⟨cs3, hblk3, hlt3, ⟨_, hget3⟩, hput3⟩ := cur3.put
   obtain ⟨cw3, hw3, cur4⟩ := hput3 (.int .i64 (k1 + 1)) rfl
   have es3 := set_same hblk3
   subst es3
   try simp only [set_set] at cur4
   have v3 : IntKind.i64.wrap (k1 + 1 + 1) = k1 + 1 + 1 := by rw [wrap_i64] <;> omega
   obtain ⟨cs4, hblk4, hlt4, ⟨_, hget4⟩, hput4⟩ := cur4.put
   obtain ⟨cw4, hw4, cur5⟩ := hput4 (.int .i64 (k1 + 1 + 1)) rfl
   have es4 := set_same hblk4
   subst es4
   try simp only [set_set] at cur5
   have v4 : IntKind.i64.wrap (k1 + 1 + 1 + 1) = k1 + 1 + 1 + 1 := by rw [wrap_i64] <;> omega
   obtain ⟨cs5, y5, bb5, hblk5, hlt5, hget5, oy5, bly5, fin5⟩ := cur5.row
   have hy5 := OT.cell oy5
   have es5 := set_same hblk5
   subst es5
   repeat (first | rw [ko] | rw [kr] | simp -dsimp -implicitDefEqProofs only [go_sem, rq1, q1, hi2, Int.toNat_natCast, hoo, hblk2, hw2, v2, hblk3, hw3, v3, hblk4, hw4, v4, hblk5, hget5])
   refine wz_intro (markStringS_tree oy5 bly5 ⟨by omega, by omega⟩) ?_
   rintro _ g5 ⟨k5, x5, rfl, lo5, hi5, o5, hh5, nn5, fr5⟩
   have cur6 := fin5 g5 _ o5 nn5 fr5
   obtain ⟨cs6, hblk6, hlt6, ⟨_, hget6⟩, hput6⟩ := cur6.put
   obtain ⟨cw6, hw6, cur7⟩ := hput6 (.int .u64 (IntKind.u64.wrap (k5))) rfl
   try simp only [set_set] at cur7
   have v6 : IntKind.i64.wrap (k5 + 1) = k5 + 1 := by rw [wrap_i64] <;> omega
   obtain ⟨cs7, y7, bb7, hblk7, hlt7, hget7, oy7, bly7, fin7⟩ := cur7.row
   have hy7 := OT.cell oy7
   have es7 := set_same hblk7
   subst es7
   repeat (first | rw [ko] | rw [kr] | simp -dsimp -implicitDefEqProofs only [go_sem, rq1, q1, hi2, Int.toNat_natCast, hoo, hblk6, hw6, v6, hblk7, hget7])
   refine wz_intro (markIntS_tree oy7 bly7 ⟨by omega, by omega⟩) ?_
   rintro _ g7 ⟨k7, x7, rfl, lo7, hi7, o7, hh7, nn7, fr7⟩
   have cur8 := fin7 g7 _ o7 nn7 fr7
   obtain ⟨cs8, hblk8, hlt8, ⟨_, hget8⟩, hput8⟩ := cur8.put
   obtain ⟨cw8, hw8, cur9⟩ := hput8 (.int .i64 (k7)) rfl
   try simp only [set_set] at cur9
   have v8 : IntKind.i64.wrap (k7 + 1) = k7 + 1 := by rw [wrap_i64] <;> omega
   obtain ⟨cs9, hblk9, hlt9, ⟨_, hget9⟩, hput9⟩ := cur9.put
   obtain ⟨cw9, hw9, cur10⟩ := hput9 (.int .i64 (k7 + 1)) rfl
   have es9 := set_same hblk9
   subst es9
   try simp only [set_set] at cur10
   have v9 : IntKind.i64.wrap (k7 + 1 + 1) = k7 + 1 + 1 := by rw [wrap_i64] <;> omega
   repeat (first | rw [ko] | rw [kr] | simp -dsimp -implicitDefEqProofs only [go_sem, rq1, q1, hi2, Int.toNat_natCast, hoo, w1, hblk8, hw8, v8, hblk9, hw9, v9])
   refine nx_keep (m - 1) (by omega) zsm ⟨i + 1, k7 + 1 + 1, c' ++ [(⟨a, x1, ⟨k1, k1 + 1, k1 + 1 + 1, x5⟩, IntKind.u64.wrap (k5), ⟨x7, k7⟩, k7 + 1⟩ : LRequest)], zsm, zsm, by omega, by simp [hcl], cur10.cast (by omega) (by simp [eRequest, List.append_assoc]) rfl, ch.snoc ⟨k1, k5, k7, rfl, ⟨hh1, lo1⟩, rfl, rfl, rfl, ⟨hh5, lo5⟩, rfl, ⟨hh7, lo7⟩, rfl, rfl, rfl, by omega, by omega⟩ (by omega), by omega, by omega⟩
  ·repeat (first | rw [ko] | rw [kr] | simp -dsimp -implicitDefEqProofs only [go_sem, rq1, hks, e5, e1, q1])
   have hi3 : i = zs.length := by omega
   rw [hi3] at cur0 hi
   rw [List.take_length] at hi
   rw [List.drop_length] at cur0
   have hcl2 : (rRequestS c').length = zs.length := by rw [rRequestS_len, hcl, hi3]
   obtain ⟨f1, f2, f3⟩ := CurA.full (es := rRequestS c') cur0 (by rw [hcl2]) (fun e he => by
    obtain ⟨x, _, rfl⟩ := List.mem_map.1 he
    exact hE x)
   rw [hcl2] at f1
   exact ⟨a, c', rfl, lo, hi, f1, heldRequestS_ch ch (by rw [hcl]; omega), f2, f3⟩
theorem heldEngine_ok {c : LEngine} {k0 k1 k2 k3 : Int} (h0 : ∀ F g, PW Tryz.prog W0 94 [.st (xModel F c.model), .raw (.int .i64 k0)] g (fun y => y = .raw (.int .i64 k1))) (h1 : ∀ F g, PW Tryz.prog W0 95 [.st (xStore F c.store), .raw (.int .i64 k1)] g (fun y => y = .raw (.int .i64 k2))) (h2 : ∀ f g, PW Tryz.prog W0 96 [.sl f 10 (rRequestS c.requests), .raw (.int .i64 k2)] g (fun y => y = .raw (.int .i64 k3))) (p1 : 0 ≤ k1) (p2 : 0 ≤ k2) (p3 : 0 ≤ k3) : ∀ F g, PW Tryz.prog W0 29 [.st (xEngine F c), .raw (.int .i64 k0)] g (fun y => y = .raw (.int .i64 k3)) := by
 intro F h
 refine PW.scalar ?_
 refine begins [[0, 1], [1, 2], [1, 2], [], [1, 2], [1, 2], [], [1, 2], [1], [], [1]] Tryz.func29 rfl (rs := [.tmp 4]) rfl rfl ?_
 intro wf
 have q1 : ¬ k1 < 0 := by omega
 have q2 : ¬ k2 < 0 := by omega
 have q3 : ¬ k3 < 0 := by omega
 repeat (first | rw [ko] | rw [kr] | simp -dsimp -implicitDefEqProofs only [go_sem, rq1])
 refine pw_intro (h0 (fun j => F (j + 0)) _) ?_
 rintro _ n0 hn0 rfl
 repeat (first | rw [ko] | rw [kr] | simp -dsimp -implicitDefEqProofs only [go_sem, rq1, q1])
 refine pw_intro (h1 (fun j => F (j + 14)) _) ?_
 rintro _ n1 hn1 rfl
 repeat (first | rw [ko] | rw [kr] | simp -dsimp -implicitDefEqProofs only [go_sem, rq1, q2])
 refine pw_intro (h2 _ _) ?_
 rintro _ n2 hn2 rfl
 repeat (first | rw [ko] | rw [kr] | simp -dsimp -implicitDefEqProofs only [go_sem, rq1, q3])
 exact ⟨zale, ⟨_, rfl⟩, rfl⟩
theorem markEngine_ok {N : Nat} {c : LEngine} {h : H2} {k0 : Int} {b3 b4 b5 b6 b8 b9 b12 b13 b14 b15 b16 : List Nat} {s3 s4 s5 s6 s8 s9 s12 s13 s14 s15 s16 : X} (o3 : OT h b3 s3 (.l 2 (rMergeS c.model.merges))) (o4 : OT h b4 s4 (.l 1 (rIntSS c.model.embed))) (o5 : OT h b5 s5 (.l 32 (rLayerS c.model.layers))) (o6 : OT h b6 s6 (.l 1 (ints c.model.gainEnd))) (o8 : OT h b8 s8 (.l 1 (rIntSS c.model.head.rows))) (o9 : OT h b9 s9 (.l 1 (rIntSS c.model.head.scales))) (o12 : OT h b12 s12 (.l 1 (rIntSS c.model.turns.cos))) (o13 : OT h b13 s13 (.l 1 (rIntSS c.model.turns.sin))) (o14 : OT h b14 s14 (.l 1 (ints c.store.refs))) (o15 : OT h b15 s15 (.l 1 (rCellSS c.store.pages))) (o16 : OT h b16 s16 (.l 10 (rRequestS c.requests))) (bl : Bl N (hn h .mk) (b3 ++ (b4 ++ (b5 ++ (b6 ++ (b8 ++ (b9 ++ (b12 ++ (b13 ++ (b14 ++ (b15 ++ b16))))))))))) (hk : 0 ≤ k0 ∧ k0 + 64 * szEngine c ≤ 4611686018427387904) : WC2 Tryz.prog W0 28 [.st [.raw (.int .i64 c.model.dim), .raw (.int .i64 c.model.heads), .raw (.int .i64 c.model.context), s3, s4, s5, s6, .raw (.int .i64 c.model.head.width), s8, s9, .raw (.int .i64 c.model.head.mul), .raw (.int .i64 c.model.head.shift), s12, s13, s14, s15, s16], .raw (.int .i64 k0)] h (fun r h' => ∃ (k1 : Int) (z3 : List LMerge) (z4 : List (List Int)) (z5 : List LLayer) (z6 : List Int) (z8 : List (List Int)) (z9 : List (List Int)) (z12 : List (List Int)) (z13 : List (List Int)) (z14 : List Int) (z15 : List (List LCell)) (z16 : List LRequest), r = .raw (.int .i64 k1) ∧ k0 ≤ k1 ∧ k1 ≤ k0 + 64 * szEngine c ∧ (OT h' b3 s3 (.l 2 (rMergeS z3)) ∧ OT h' b4 s4 (.l 1 (rIntSS z4)) ∧ OT h' b5 s5 (.l 32 (rLayerS z5)) ∧ OT h' b6 s6 (.l 1 (ints z6)) ∧ OT h' b8 s8 (.l 1 (rIntSS z8)) ∧ OT h' b9 s9 (.l 1 (rIntSS z9)) ∧ OT h' b12 s12 (.l 1 (rIntSS z12)) ∧ OT h' b13 s13 (.l 1 (rIntSS z13)) ∧ OT h' b14 s14 (.l 1 (ints z14)) ∧ OT h' b15 s15 (.l 1 (rCellSS z15)) ∧ OT h' b16 s16 (.l 10 (rRequestS z16))) ∧ (∀ F g, PW Tryz.prog W0 29 [.st (xEngine F { c with model := { c.model with merges := z3, embed := z4, layers := z5, gainEnd := z6, head := { c.model.head with rows := z8, scales := z9 }, turns := { c.model.turns with cos := z12, sin := z13 } }, store := { c.store with refs := z14, pages := z15 }, requests := z16 }), .raw (.int .i64 k0)] g (fun y => y = .raw (.int .i64 k1))) ∧ hn h .mk ≤ hn h' .mk ∧ ∀ b, b < hn h .mk → b ∉ (b3 ++ (b4 ++ (b5 ++ (b6 ++ (b8 ++ (b9 ++ (b12 ++ (b13 ++ (b14 ++ (b15 ++ b16)))))))))) → h'.get b = h.get b) := by
 unfold szEngine at *
 replace bl : Bl N (hn h .mk) ((b3 ++ (b4 ++ (b5 ++ (b6 ++ (b8 ++ (b9 ++ (b12 ++ b13))))))) ++ ((b14 ++ b15) ++ b16)) := by simpa only [List.append_assoc] using bl
 obtain ⟨bl0, rb0, D0⟩ := bl.split
 obtain ⟨bl1, rb1, D1⟩ := rb0.split
 have bl2 := rb1
 have lj3 := bl0.split.1
 have lj4 := bl0.split.2.1.split.1
 have lj5 := bl0.split.2.1.split.2.1.split.1
 have lj6 := bl0.split.2.1.split.2.1.split.2.1.split.1
 have lj8 := bl0.split.2.1.split.2.1.split.2.1.split.2.1.split.1
 have lj9 := bl0.split.2.1.split.2.1.split.2.1.split.2.1.split.2.1.split.1
 have lj12 := bl0.split.2.1.split.2.1.split.2.1.split.2.1.split.2.1.split.2.1.split.1
 have lj13 := bl0.split.2.1.split.2.1.split.2.1.split.2.1.split.2.1.split.2.1.split.2.1
 have lj14 := bl1.split.1
 have lj15 := bl1.split.2.1
 have lj16 := bl2
 refine begins [[0, 1], [1, 2], [1, 2], [1, 2], [1]] Tryz.func28 rfl (rs := [.tmp 4]) rfl rfl ?_
 intro wf
 repeat (first | rw [ko] | rw [kr] | simp -dsimp -implicitDefEqProofs only [go_sem, rq1])
 replace o3 := fun k => OT.keep o3 (H2.le_push1 h k) lj3
 replace o4 := fun k => OT.keep o4 (H2.le_push1 h k) lj4
 replace o5 := fun k => OT.keep o5 (H2.le_push1 h k) lj5
 replace o6 := fun k => OT.keep o6 (H2.le_push1 h k) lj6
 replace o8 := fun k => OT.keep o8 (H2.le_push1 h k) lj8
 replace o9 := fun k => OT.keep o9 (H2.le_push1 h k) lj9
 replace o12 := fun k => OT.keep o12 (H2.le_push1 h k) lj12
 replace o13 := fun k => OT.keep o13 (H2.le_push1 h k) lj13
 replace o14 := fun k => OT.keep o14 (H2.le_push1 h k) lj14
 replace o15 := fun k => OT.keep o15 (H2.le_push1 h k) lj15
 replace o16 := fun k => OT.keep o16 (H2.le_push1 h k) lj16
 refine wz_intro (markModel_ok (c := c.model) (o3 _) (o4 _) (o5 _) (o6 _) (o8 _) (o9 _) (o12 _) (o13 _) (bl0.wide (Nat.le_refl _) (by simp only [hn_push]; omega)) ⟨by omega, by omega⟩) ?_
 rintro _ g0 ⟨k1, z3, z4, z5, z6, z8, z9, z12, z13, rfl, lo0, hi0, ⟨d3, d4, d5, d6, d8, d9, d12, d13⟩, hd0, n0, fr0⟩
 simp only [hn_push] at n0
 have a0 : hg g0 (hn h .mk) .mk = _ := fr0 (hn h .mk) (by simp only [hn_push]; omega) (fun hb => by have := (bl0.2 _ hb).2; omega)
 replace a0 : hg g0 (hn h .mk) .mk = hg (h.push _) (hn h .mk) .mk := a0
 simp -dsimp -implicitDefEqProofs only [go_sem, hoo] at a0
 replace o14 := OT.frame (g' := g0) (o14 _) fun b hb => fr0 b (by have := (lj14.2 b hb).2; simp only [hn_push]; omega) (fun hx => D0 b hx (by simp [hb]))
 replace o15 := OT.frame (g' := g0) (o15 _) fun b hb => fr0 b (by have := (lj15.2 b hb).2; simp only [hn_push]; omega) (fun hx => D0 b hx (by simp [hb]))
 replace o16 := OT.frame (g' := g0) (o16 _) fun b hb => fr0 b (by have := (lj16.2 b hb).2; simp only [hn_push]; omega) (fun hx => D0 b hx (by simp [hb]))
 repeat (first | rw [ko] | rw [kr] | simp -dsimp -implicitDefEqProofs only [go_sem, rq1, a0])
 refine wz_intro (markStore_ok (c := c.store) (o14) (o15) (bl1.wide (Nat.le_refl _) (by omega)) ⟨by omega, by omega⟩) ?_
 rintro _ g1 ⟨k2, z14, z15, rfl, lo1, hi1, ⟨d14, d15⟩, hd1, n1, fr1⟩
 have a1 : hg g1 (hn h .mk) .mk = _ := fr1 (hn h .mk) (by omega) (fun hb => by have := (bl1.2 _ hb).2; omega)
 replace a1 : hg g1 (hn h .mk) .mk = hg g0 (hn h .mk) .mk := a1
 simp -dsimp -implicitDefEqProofs only [go_sem, a0] at a1
 replace d3 := OT.frame (g' := g1) d3 fun b hb => fr1 b (by have := (lj3.2 b hb).2; omega) (fun hx => D0 b (by simp [hb]) (by first | (simp []; done) | (simp only [List.mem_append] at hx ⊢; rcases hx with hx | hx <;> simp [hx])))
 replace d4 := OT.frame (g' := g1) d4 fun b hb => fr1 b (by have := (lj4.2 b hb).2; omega) (fun hx => D0 b (by simp [hb]) (by first | (simp []; done) | (simp only [List.mem_append] at hx ⊢; rcases hx with hx | hx <;> simp [hx])))
 replace d5 := OT.frame (g' := g1) d5 fun b hb => fr1 b (by have := (lj5.2 b hb).2; omega) (fun hx => D0 b (by simp [hb]) (by first | (simp []; done) | (simp only [List.mem_append] at hx ⊢; rcases hx with hx | hx <;> simp [hx])))
 replace d6 := OT.frame (g' := g1) d6 fun b hb => fr1 b (by have := (lj6.2 b hb).2; omega) (fun hx => D0 b (by simp [hb]) (by first | (simp []; done) | (simp only [List.mem_append] at hx ⊢; rcases hx with hx | hx <;> simp [hx])))
 replace d8 := OT.frame (g' := g1) d8 fun b hb => fr1 b (by have := (lj8.2 b hb).2; omega) (fun hx => D0 b (by simp [hb]) (by first | (simp []; done) | (simp only [List.mem_append] at hx ⊢; rcases hx with hx | hx <;> simp [hx])))
 replace d9 := OT.frame (g' := g1) d9 fun b hb => fr1 b (by have := (lj9.2 b hb).2; omega) (fun hx => D0 b (by simp [hb]) (by first | (simp []; done) | (simp only [List.mem_append] at hx ⊢; rcases hx with hx | hx <;> simp [hx])))
 replace d12 := OT.frame (g' := g1) d12 fun b hb => fr1 b (by have := (lj12.2 b hb).2; omega) (fun hx => D0 b (by simp [hb]) (by first | (simp []; done) | (simp only [List.mem_append] at hx ⊢; rcases hx with hx | hx <;> simp [hx])))
 replace d13 := OT.frame (g' := g1) d13 fun b hb => fr1 b (by have := (lj13.2 b hb).2; omega) (fun hx => D0 b (by simp [hb]) (by first | (simp []; done) | (simp only [List.mem_append] at hx ⊢; rcases hx with hx | hx <;> simp [hx])))
 replace o16 := OT.frame (g' := g1) (o16) fun b hb => fr1 b (by have := (lj16.2 b hb).2; omega) (fun hx => D1 b hx (by simp [hb]))
 repeat (first | rw [ko] | rw [kr] | simp -dsimp -implicitDefEqProofs only [go_sem, rq1, a1])
 refine wz_intro (markRequestS_tree (o16) (bl2.wide (Nat.le_refl _) (by omega)) ⟨by omega, by omega⟩) ?_
 rintro _ g2 ⟨k3, z16, rfl, lo2, hi2, d16, hd2, n2, fr2⟩
 have a2 : hg g2 (hn h .mk) .mk = _ := fr2 (hn h .mk) (by omega) (fun hb => by have := (bl2.2 _ hb).2; omega)
 replace a2 : hg g2 (hn h .mk) .mk = hg g1 (hn h .mk) .mk := a2
 simp -dsimp -implicitDefEqProofs only [go_sem, a1] at a2
 replace d3 := OT.frame (g' := g2) d3 fun b hb => fr2 b (by have := (lj3.2 b hb).2; omega) (fun hx => D0 b (by simp [hb]) (by first | (simp [hx]; done) | (simp only [List.mem_append] at hx ⊢; rcases hx with hx | hx <;> simp [hx])))
 replace d4 := OT.frame (g' := g2) d4 fun b hb => fr2 b (by have := (lj4.2 b hb).2; omega) (fun hx => D0 b (by simp [hb]) (by first | (simp [hx]; done) | (simp only [List.mem_append] at hx ⊢; rcases hx with hx | hx <;> simp [hx])))
 replace d5 := OT.frame (g' := g2) d5 fun b hb => fr2 b (by have := (lj5.2 b hb).2; omega) (fun hx => D0 b (by simp [hb]) (by first | (simp [hx]; done) | (simp only [List.mem_append] at hx ⊢; rcases hx with hx | hx <;> simp [hx])))
 replace d6 := OT.frame (g' := g2) d6 fun b hb => fr2 b (by have := (lj6.2 b hb).2; omega) (fun hx => D0 b (by simp [hb]) (by first | (simp [hx]; done) | (simp only [List.mem_append] at hx ⊢; rcases hx with hx | hx <;> simp [hx])))
 replace d8 := OT.frame (g' := g2) d8 fun b hb => fr2 b (by have := (lj8.2 b hb).2; omega) (fun hx => D0 b (by simp [hb]) (by first | (simp [hx]; done) | (simp only [List.mem_append] at hx ⊢; rcases hx with hx | hx <;> simp [hx])))
 replace d9 := OT.frame (g' := g2) d9 fun b hb => fr2 b (by have := (lj9.2 b hb).2; omega) (fun hx => D0 b (by simp [hb]) (by first | (simp [hx]; done) | (simp only [List.mem_append] at hx ⊢; rcases hx with hx | hx <;> simp [hx])))
 replace d12 := OT.frame (g' := g2) d12 fun b hb => fr2 b (by have := (lj12.2 b hb).2; omega) (fun hx => D0 b (by simp [hb]) (by first | (simp [hx]; done) | (simp only [List.mem_append] at hx ⊢; rcases hx with hx | hx <;> simp [hx])))
 replace d13 := OT.frame (g' := g2) d13 fun b hb => fr2 b (by have := (lj13.2 b hb).2; omega) (fun hx => D0 b (by simp [hb]) (by first | (simp [hx]; done) | (simp only [List.mem_append] at hx ⊢; rcases hx with hx | hx <;> simp [hx])))
 replace d14 := OT.frame (g' := g2) d14 fun b hb => fr2 b (by have := (lj14.2 b hb).2; omega) (fun hx => D1 b (by simp [hb]) (by first | (simp [hx]; done) | (simp only [List.mem_append] at hx ⊢; rcases hx with hx | hx <;> simp [hx])))
 replace d15 := OT.frame (g' := g2) d15 fun b hb => fr2 b (by have := (lj15.2 b hb).2; omega) (fun hx => D1 b (by simp [hb]) (by first | (simp [hx]; done) | (simp only [List.mem_append] at hx ⊢; rcases hx with hx | hx <;> simp [hx])))
 repeat (first | rw [ko] | rw [kr] | simp -dsimp -implicitDefEqProofs only [go_sem])
 refine ⟨k3, z3, z4, z5, z6, z8, z9, z12, z13, z14, z15, z16, rfl, by omega, by omega, ⟨d3, d4, d5, d6, d8, d9, d12, d13, d14, d15, d16⟩, heldEngine_ok hd0 hd1 hd2 (by omega) (by omega) (by omega), by omega, fun b hb hnb => ?_⟩
 replace hnb : b ∉ ((b3 ++ (b4 ++ (b5 ++ (b6 ++ (b8 ++ (b9 ++ (b12 ++ b13))))))) ++ ((b14 ++ b15) ++ b16)) := by simpa only [List.append_assoc] using hnb
 simp only [List.mem_append, not_or] at hnb
 rw [fr2 b (by omega) hnb.2.2]
 rw [fr1 b (by omega) (by simp [hnb.2.1])]
 rw [fr0 b (by simp only [hn_push]; omega) (by simp [hnb.1])]
 simp only [H2.push]; rw [if_neg (by unfold hn at hb; omega)]
end Go.Bi
end
section
set_option maxRecDepth 20000
namespace Go.Bi
open Go.Proofs
open Go.Ai (wrap_i64 wrap_u8)
variable {W0 : World} {P : Program}
set_option maxHeartbeats 4000000
def Gr (N : Nat) (g : H2) (v : X) (z n : Nat) (ts : List T) (bs : List Nat) : Prop := ∃ cs, Own N g v z n cs ∧ OTs g bs cs ts ∧ Bl N (hn g .mk) bs ∧ ∀ b, blockOf v = some b → b ∉ bs
theorem Gr.nil {N : Nat} {g : H2} {z : Nat} : Gr N g (.raw (.slice none 0 0)) z 0 [] [] := ⟨[], Own.nil, .nil, .nil, fun b hb => by cases hb⟩
theorem Gr.empty {N : Nat} {g : H2} {z : Nat} (hN : N ≤ hn g .mk) : Gr N (g.push ⟨z, []⟩) (.raw (.slice (some ⟨hn g .mk, 0, none⟩) 0 0)) z 0 [] [] := ⟨[], Own.new hN (by simp), .nil, .nil, fun b hb => by simp⟩
theorem Gr.keep {N : Nat} {g g' : H2} {v : X} {z n : Nat} {ts : List T} {bs : List Nat} (gr : Gr N g v z n ts bs) (l : g.le g') : Gr N g' v z n ts bs := by
 obtain ⟨cs, o, t, b, d⟩ := gr
 exact ⟨cs, o.keep l, t.keep l b, b.wide (Nat.le_refl _) l.n, d⟩
theorem Gr.cell {N : Nat} {g : H2} {v : X} {z n : Nat} {ts : List T} {bs : List Nat} (gr : Gr N g v z n ts bs) : cellsX v = some [v] ∧ okX v = true ∧ isTpX v = false := by
 obtain ⟨cs, o, _⟩ := gr
 obtain ⟨_, h⟩ := o
 rcases h with ⟨rfl, _⟩ | ⟨b, rfl, _⟩ <;> exact ⟨rfl, rfl, rfl⟩
theorem OwnI.cell {N : Nat} {g : H2} {v : X} {zs : List Int} (o : OwnI N g v zs) : cellsX v = some [v] ∧ okX v = true ∧ isTpX v = false := by
 obtain ⟨_, h⟩ := o
 rcases h with ⟨rfl, _⟩ | ⟨b, rfl, _⟩ <;> exact ⟨rfl, rfl, rfl⟩
theorem Gr.tree {N : Nat} {g : H2} {v : X} {z n : Nat} {es : List (List T)} {bs : List Nat} (gr : Gr N g v z n es.flatten bs) (hn' : n = es.length) (hz : ∀ e ∈ es, e.length = z) : ∃ bs', OT g bs' v (.l z es) ∧ Bl N (hn g .mk) bs' := by
  subst hn'
  obtain ⟨cs, ⟨hl, ho⟩, t, b, d⟩ := gr
  rcases ho with ⟨rfl, h0⟩ | ⟨q, rfl, h1, h2, h3⟩
  · have : es = [] := List.eq_nil_of_length_eq_zero h0
    subst this
    exact ⟨[], .nil, .nil⟩
  · exact ⟨q :: bs, .row h3 hl rfl hz t, List.nodup_cons.2 ⟨d q rfl, b.1⟩, fun x hx => by
      rcases List.mem_cons.1 hx with rfl | hx
      · exact ⟨h1, h2⟩
      · exact b.2 x hx⟩
theorem lit_flat {b n z : Nat} {cs : List X} : ∀ {l : List X} {ts : List T} {j : Nat}, toTs l = some ts → (∀ q x, l[q]? = some x → cs[j + q]? = some x) → mkL (under (litA b n z cs) 0) j ts = l
 | [], ts, j, h, _ => by simp only [toTs, Option.some.injEq] at h; subst h; rfl
 | x :: l, ts, j, h, hx => by
  simp only [toTs] at h
  cases h1 : toT x with
  | none => rw [h1] at h; cases h
  | some t =>
   cases h2 : toTs l with
   | none => rw [h1, h2] at h; cases h
   | some r =>
    rw [h1, h2] at h
    simp only [Option.some.injEq] at h
    subst h
    have ih := lit_flat (b := b) (n := n) (z := z) (cs := cs) (j := j + 1) h2 fun q y hy => by
     have := hx (q + 1) y hy
     rwa [show j + (q + 1) = j + 1 + q by omega] at this
    have hc : cs[j]? = some x := hx 0 x rfl
    have e1 : ∀ p, litA b n z cs (0 :: j :: p) = pathX p x := fun p => by
     simp only [litA, Nat.zero_mul, Nat.zero_add, List.getD_eq_getElem?_getD, hc, Option.getD_some]
    simp only [mkL, ih]
    congr 1
    cases x with
    | raw v =>
     simp only [toT] at h1
     split at h1 <;> cases h1
     rfl
    | sl f z' es =>
     simp only [toT, Option.some.injEq] at h1
     subst h1
     show X.sl _ _ _ = X.sl _ _ _
     congr 1
     funext p
     exact e1 p
    | pr a f c => simp [toT] at h1
    | st xs => simp [toT] at h1
    | tp xs => simp [toT] at h1
theorem lit_intro {g : H2} {K : KT} {z : Nat} {cs : List X} (hz : cs.length = z)
  (hk : ∀ w g', srcX g' z w = some (1, cs) → g.le g' → kz K w g' .mk) : litz 1 z cs (toTs cs) g K .mk := by
 cases ht : toTs cs with
 | none =>
  rw [lit_N]
  refine hk _ _ ?_ (le_push (H2.le.refl _))
  exact src_own (N := 0) (Own.new (Nat.zero_le _) (by omega))
 | some ts =>
  rw [lit_S]
  refine hk _ _ ?_ (le_up (H2.le.refl _) (Nat.le_succ _))
  have hl : ts.length = z := by rw [← hz]; exact (toTs_get ht).1
  simp only [srcX, if_true]
  have e : chunk z (0 + 1) ts = [ts] := by simp only [chunk, List.take_of_length_le (Nat.le_of_eq hl)]
  rw [e]
  have := lit_flat (b := hn g .mk) (n := 0 + 1) (z := z) (cs := cs) (l := cs) (j := 0) ht fun q x hq => by rw [Nat.zero_add]; exact hq
  simp only [flatX, this, List.append_nil, List.length_cons, List.length_nil]
theorem append_gr {D : Nat → Option (List Nat)} {g : H2} {K : KT} {t u U z y N n : Nat} {zs : List Value} {v w : X} {ys : List X} {ts us : List T} {bs b2 : List Nat} (he : Go.Ai.elt? P t = some (U, z + 1, y)) (hz : Go.Ai.zr? P U = some zs) (hl : zs.length = z + 1) (hu : Go.Ai.cls? P u = some .sl)
    (gr : Gr N g v (z + 1) n ts bs) (hs : srcX g (z + 1) w = some (1, ys)) (o : OTs g b2 ys us) (hyl : ys.length = z + 1) (hN : N ≤ hn g .mk) (hlo : ∀ b ∈ b2, N ≤ b ∧ b < hn g .mk) (hnd : b2.Nodup) (hdj : ∀ b ∈ bs, b ∉ b2) (hdv : ∀ b, blockOf v = some b → b ∉ b2) (hn0 : (n + 1) * (y + 1) ≤ Go.Ai.most)
    (hk : ∀ v' g', Gr N g' v' (z + 1) (n + 1) (ts ++ us) (bs ++ b2) → hn g .mk ≤ hn g' .mk → (∀ g0 : H2, hn g0 .mk ≤ N → g0.le g → g0.le g') → (∀ b, b < hn g .mk → blockOf v ≠ some b → hg g' b .mk = hg g b .mk) → kz K v' g' .mk) :
    az (biz P g .append [t, u] [v, w] .mk) K .mk := by
  obtain ⟨cs, ⟨hlen0, hcase⟩, oc, bl, dv⟩ := gr
  have hok := OTs.okx o
  have hbl : Bl N (hn g .mk) (bs ++ b2) := ⟨List.nodup_append.2 ⟨bl.1, hnd, fun x hx y hy e => hdj x hx (e ▸ hy)⟩, fun x hx => by
    rcases List.mem_append.1 hx with hx | hx
    · exact bl.2 x hx
    · exact hlo x hx⟩
  have key : ∀ a, v = .raw (.slice a n n) → biz P g .append [t, u] [v, w] .mk = (match a with
        | none => some (.raw (.slice (some ⟨g.n, 0, none⟩) 1 1), g.push ⟨z + 1, ys⟩)
        | some a => match g.get a.block with
          | some k => if k.z = z + 1 ∧ a.off = 0 then (rdL k.cs 0 (n * (z + 1))).map fun olds => (.raw (.slice (some ⟨g.n, 0, none⟩) (n + 1) (n + 1)), (g.kill a.block).push ⟨z + 1, olds ++ ys⟩) else none
          | none => none) := by
    intro a ha
    subst ha
    simp only [biz, builtinX, hu, appendX, he, hs, hz]
    rw [if_pos ⟨hl, hn0, hok⟩, if_neg (by omega)]
    rfl
  have hmv : ∀ b : Nat, (b == b) = true := by simp
  rcases hcase with ⟨rfl, rfl⟩ | ⟨b, rfl, hNb, hbn, hb⟩
  · have hcs : cs = [] := List.eq_nil_of_length_eq_zero (by omega)
    subst hcs
    rw [key none rfl]
    have hle : ∀ b, b < hn g .mk → hg (g.push ⟨z + 1, ys⟩) b .mk = hg g b .mk := fun b' hb' => by
      rw [hg_push, show (b' == hn g .mk) = false by simp; omega]; rfl
    refine hk _ _ ⟨ys, ⟨by omega, .inr ⟨g.n, rfl, hN, by rw [hn_push]; exact Nat.lt_succ_self _, ?_⟩⟩, ?_, hbl.wide (Nat.le_refl _) (by rw [hn_push]; omega), ?_⟩ (by rw [hn_push]; omega) (fun g0 _ l0 => le_push l0) (fun b' h1 _ => hle b' h1)
    · rw [hg_push]; show Go.Bi.hk (g.n == g.n) _ _ _ _ = _; rw [hmv]; rfl
    · have := (oc.append o)
      rw [List.nil_append] at this
      exact this.frame fun x hx => hle x (hbl.2 x hx).2
    · intro b' e hx
      simp only [blockOf, Option.some.injEq] at e
      have := (hbl.2 b' hx).2
      unfold hn at this; omega
  · have hb' : g.get b = some ⟨z + 1, cs⟩ := hb
    rw [key _ rfl]
    simp only [hb']
    rw [if_pos ⟨trivial, trivial⟩, rd_all hlen0]
    have hle : ∀ b', b' < hn g .mk → b' ≠ b → hg ((g.kill b).push ⟨z + 1, cs ++ ys⟩) b' .mk = hg g b' .mk := fun b' h1 h2 => by
      rw [hg_push, hn_kill, show (b' == hn g .mk) = false by simp; omega, hk_f, hg_kill, show (b' == b) = false by simp [h2]]; rfl
    refine hk _ _ ⟨cs ++ ys, ⟨by simp [hlen0, hyl, Nat.add_mul], .inr ⟨g.n, rfl, hN, by rw [hn_push, hn_kill]; exact Nat.lt_succ_self _, ?_⟩⟩, ?_, hbl.wide (Nat.le_refl _) (by rw [hn_push, hn_kill]; omega), ?_⟩ (by rw [hn_push, hn_kill]; omega) (fun g0 h0 l0 => le_push (le_kill l0 (by omega))) (fun b' h1 h2 => hle b' h1 (fun e => h2 (by rw [e]; rfl)))
    · rw [hg_push, hn_kill]; show Go.Bi.hk (g.n == g.n) _ _ _ _ = _; rw [hmv]; rfl
    · exact (oc.append o).frame fun x hx => hle x (hbl.2 x hx).2 fun e => by
        rcases List.mem_append.1 hx with hx | hx
        · exact dv b rfl (e ▸ hx)
        · exact hdv b rfl (e ▸ hx)
    · intro b' e hx
      simp only [blockOf, Option.some.injEq] at e
      have := (hbl.2 b' hx).2
      unfold hn at this; omega
theorem Gr.bl {N : Nat} {g : H2} {v : X} {z n : Nat} {ts : List T} {bs : List Nat} (gr : Gr N g v z n ts bs) : ∀ b ∈ bs, N ≤ b ∧ b < hn g .mk := by
 obtain ⟨cs, o, t, b, d⟩ := gr
 exact b.2
theorem Gr.lt {N : Nat} {g : H2} {v : X} {z n : Nat} {ts : List T} {bs : List Nat} (gr : Gr N g v z n ts bs) : ∀ b, blockOf v = some b → N ≤ b ∧ b < hn g .mk := by
 obtain ⟨cs, ⟨_, h⟩, _⟩ := gr
 rcases h with ⟨rfl, _⟩ | ⟨q, rfl, h1, h2, _⟩
 ·intro b e; cases e
 ·intro b e; simp only [blockOf, Option.some.injEq] at e; subst e; exact ⟨h1, h2⟩
theorem cloneLists_new {f : Adr} {zs : List (List Int)} {g : H2} (hs : szIntSS zs ≤ 1048576) : NewT Tryz.prog W0 133 [.sl f 1 (rIntSS zs)] g (.l 1 (rIntSS zs)) := by
 have hl : zs.length ≤ 1048576 := by unfold szIntSS at hs; omega
 refine begins [[0], [0], [0, 3], [3, 6, 7, 8], [3, 6, 7, 8], [3, 5, 6, 7, 8], [3, 6, 7, 8], [3]] Tryz.func133 rfl (rs := [.tmp 2]) rfl rfl ?_
 intro wf
 repeat (first | rw [ko] | rw [kr] | simp -dsimp -implicitDefEqProofs only [go_sem])
 refine lz_keep [6, 7] (fun m e h' => ∃ (i : Nat) (v : X) (bs : List Nat), look e 8 .mk = .raw (.int .i64 (i : Nat)) ∧ look e 3 .mk = v ∧ m + i = zs.length ∧ g.le h' ∧ Gr (hn g .mk) h' v 1 i (((zs.take i).map eIntS).flatten) bs) zs.length ?_ ?_
 ·exact ⟨0, _, [], zsm, by simp -dsimp -implicitDefEqProofs only [go_sem, rq1] <;> rfl, by omega, H2.le.refl _, [], Own.nil, .nil, .nil, fun b hb => by cases hb⟩
 rintro m e h' hks ⟨i, v, bs, e8, e3, hm, hle, gr⟩
 simp -dsimp -implicitDefEqProofs only [go_sem] at hks
 by_cases q1 : (i : Int) < (zs.length : Int)
 ·have q2 : i < zs.length := by omega
  have w1 := wrap_succ q2 (by omega)
  repeat (first | rw [ko] | rw [kr] | simp -dsimp -implicitDefEqProofs only [go_sem, rq1, hks, e8, e3, q1, q2])
  have hsl : (zs.getD i default).length ≤ sumN szIntS zs := sumN_mem (f := szIntS) (getD_mem q2)
  refine wz_intro (cloneI_ok (by unfold szIntSS at hs; omega)) ?_
  rintro y g1 ⟨l1, oy⟩
  have hy := OwnI.cell oy
  repeat (first | rw [ko] | rw [kr] | simp -dsimp -implicitDefEqProofs only [go_sem, rq3, hy])
  refine lit_intro (cs := [y]) rfl ?_
  intro w g2 hs2 l2
  repeat (first | rw [ko] | rw [kr] | simp -dsimp -implicitDefEqProofs only [go_sem])
  obtain ⟨b2, ot, bl2⟩ := OwnI.tree oy
  have gr1 := gr.keep (l1.trans l2)
  have hv := gr.lt
  refine append_gr (P := Tryz.prog) (D := fun _ => none) (N := hn g .mk) (us := [.l 1 (ints (zs.getD i default))]) Go.Ai.ty_el25 Go.Ai.ty_zr27 rfl Go.Ai.ty_cl25 gr1 hs2 (OTs.one (ot.keep l2 bl2)) rfl (by have := l1.1; have := l2.1; have := hle.1; omega) (fun b hb => by have := bl2.2 b hb; have := l2.1; have := hle.1; omega) bl2.1 (fun b hb hb' => by have := gr.bl b hb; have := bl2.2 b hb'; omega) (fun b e hb' => by have := hv b e; have := bl2.2 b hb'; omega) (by have : Go.Ai.most = 1099511627776 := rfl; omega) ?_
  intro v' g3 gr3 nn3 le3 fr3
  repeat (first | rw [ko] | rw [kr] | simp -dsimp -implicitDefEqProofs only [go_sem, rq1, w1])
  refine nx_keep (m - 1) (by omega) zsm ⟨i + 1, v', bs ++ b2, zsm, zsm, by omega, le3 g (Nat.le_refl _) ((hle.trans l1).trans l2), ?_⟩
  rw [flat_next q2]
  exact gr3
 ·repeat (first | rw [ko] | rw [kr] | simp -dsimp -implicitDefEqProofs only [go_sem, rq1, hks, e8, e3, q1])
  have hi : i = zs.length := by omega
  rw [hi, List.take_length] at gr
  obtain ⟨bs', o', bl'⟩ := Gr.tree (es := rIntSS zs) gr (by rw [rIntSS_len]) (fun e he => by obtain ⟨x, _, rfl⟩ := List.mem_map.1 he; rfl)
  exact ⟨hle, bs', o', bl'⟩
end Go.Bi
end
section
set_option maxRecDepth 20000
namespace Go.Bi
open Go.Proofs
open Go.Ai (wrap_i64 wrap_u8)
variable {W0 : World} {P : Program}
set_option maxHeartbeats 4000000
theorem OT.setN {g : H2} {bs : List Nat} {x : X} {t : T} {N M b : Nat} {k : OB} (o : OT g bs x t) (bl : Bl N M bs) (hb : b < N) : OT (g.set b k) bs x t := o.frame fun q hq => by
 have := (bl.2 q hq).1
 simp only [H2.set]; rw [if_neg (by omega)]
theorem copyLists_new {f : Adr} {zs : List (List Int)} {g : H2} (hs : szIntSS zs ≤ 1048576) : NewT Tryz.prog W0 144 [.sl f 1 (rIntSS zs)] g (.l 1 (rIntSS zs)) := by
 have hl : zs.length ≤ 1048576 := by unfold szIntSS at hs; omega
 refine begins [[0], [0], [0, 3], [0, 3, 4], [0, 3, 4], [0, 3, 4], [3]] Tryz.func144 rfl (rs := [.tmp 2]) rfl rfl ?_
 intro wf
 repeat (first | rw [ko] | rw [kr] | simp -dsimp -implicitDefEqProofs only [go_sem, rq1, rq3])
 refine lz_keep [0] (fun m e h' => ∃ (i : Nat) (v : X) (bs : List Nat), look e 4 .mk = .raw (.int .i64 (i : Nat)) ∧ look e 3 .mk = v ∧ m + i = zs.length ∧ g.le h' ∧ Gr (hn g .mk) h' v 1 i (((zs.take i).map eIntS).flatten) bs) zs.length ?_ ?_
 ·exact ⟨0, _, [], zsm, by simp -dsimp -implicitDefEqProofs only [go_sem] <;> rfl, by omega, le_push (H2.le.refl _), Gr.empty (Nat.le_refl _)⟩
 rintro m e h' hks ⟨i, v, bs, e8, e3, hm, hle, gr⟩
 simp -dsimp -implicitDefEqProofs only [go_sem] at hks
 by_cases q1 : (i : Int) < (zs.length : Int)
 ·have q2 : i < zs.length := by omega
  have w1 := wrap_succ q2 (by omega)
  have hsl : (zs.getD i default).length ≤ sumN szIntS zs := sumN_mem (f := szIntS) (getD_mem q2)
  have hsz2 : szIntSS zs = zs.length + sumN szIntS zs := rfl
  repeat (first | rw [ko] | rw [kr] | simp -dsimp -implicitDefEqProofs only [go_sem, rq1, rq3, hks, e8, e3, q1, q2])
  refine append_ints (P := Tryz.prog) (D := fun _ => none) (N := hn h' .mk) (xs := []) Go.Ai.ty_el27 Go.Ai.ty_zr3 Go.Ai.ty_cl27 (Own.new (Nat.le_refl _) rfl) (by simp only [hn_push]; omega) (by simp only [List.length_nil]; have : Go.Ai.most = 1099511627776 := rfl; omega) ?_
  intro y g1 oy n1 le1 fr1
  rw [List.nil_append] at oy
  have l1 : h'.le g1 := le1 h' (Nat.le_refl _) (H2.le_push1 h' _)
  have hy := OwnI.cell oy
  repeat (first | rw [ko] | rw [kr] | simp -dsimp -implicitDefEqProofs only [go_sem, rq3, hy])
  refine lit_intro (cs := [y]) rfl ?_
  intro w g2 hs2 l2
  repeat (first | rw [ko] | rw [kr] | simp -dsimp -implicitDefEqProofs only [go_sem, rq1])
  obtain ⟨b2, ot, bl2⟩ := OwnI.tree oy
  have gr1 := gr.keep (l1.trans l2)
  have hv := gr.lt
  refine append_gr (P := Tryz.prog) (D := fun _ => none) (N := hn g .mk) (us := [.l 1 (ints (zs.getD i default))]) Go.Ai.ty_el25 Go.Ai.ty_zr27 rfl Go.Ai.ty_cl25 gr1 hs2 (OTs.one (ot.keep l2 bl2)) rfl (by have := l1.1; have := l2.1; have := hle.1; omega) (fun b hb => by have := bl2.2 b hb; have := l2.1; have := hle.1; omega) bl2.1 (fun b hb hb' => by have := gr.bl b hb; have := bl2.2 b hb'; omega) (fun b e hb' => by have := hv b e; have := bl2.2 b hb'; omega) (by have : Go.Ai.most = 1099511627776 := rfl; omega) ?_
  intro v' g3 gr3 nn3 le3 fr3
  repeat (first | rw [ko] | rw [kr] | simp -dsimp -implicitDefEqProofs only [go_sem, rq1, w1])
  refine nx_keep (m - 1) (by omega) zsm ⟨i + 1, v', bs ++ b2, zsm, zsm, by omega, le3 g (Nat.le_refl _) ((hle.trans l1).trans l2), ?_⟩
  rw [flat_next q2]
  exact gr3
 ·repeat (first | rw [ko] | rw [kr] | simp -dsimp -implicitDefEqProofs only [go_sem, rq1, hks, e8, e3, q1])
  have hi : i = zs.length := by omega
  rw [hi, List.take_length] at gr
  obtain ⟨bs', o', bl'⟩ := Gr.tree (es := rIntSS zs) gr (by rw [rIntSS_len]) (fun e he => by obtain ⟨x, _, rfl⟩ := List.mem_map.1 he; rfl)
  exact ⟨hle, bs', o', bl'⟩
theorem flat_merges {g : H2} {f : Adr} : ∀ {zs : List LMerge} {i : Nat}, OTs g [] (flatX f i (rMergeS zs)) (rMergeS zs).flatten
 | [], _ => .nil
 | z :: zs, i => by
  have h := flat_merges (g := g) (f := f) (zs := zs) (i := i + 1)
  have h1 : OTs g [] (mkL (under f i) 0 (eMerge z)) (eMerge z) := OTs.cons (bs := []) (bs' := []) (OT.raw rfl) (OTs.cons (bs := []) (bs' := []) (OT.raw rfl) OTs.nil)
  exact h1.append h
theorem flat_mlen {f : Adr} : ∀ {zs : List LMerge} {i : Nat}, (flatX f i (rMergeS zs)).length = zs.length * 2
 | [], _ => rfl
 | z :: zs, i => by
  have h := flat_mlen (f := f) (zs := zs) (i := i + 1)
  show (mkL (under f i) 0 (eMerge z) ++ flatX f (i + 1) (rMergeS zs)).length = _
  rw [List.length_append, h]
  show 2 + zs.length * 2 = (zs.length + 1) * 2
  omega
theorem append_merges {D : Nat → Option (List Nat)} {g : H2} {K : KT} {t u U y N : Nat} {zv : List Value} {zs : List LMerge} {x : X} {f : Adr} (he : Go.Ai.elt? P t = some (U, 2, y)) (hz : Go.Ai.zr? P U = some zv) (hl : zv.length = 2) (hu : Go.Ai.cls? P u = some .sl)
  (hx : Own N g x 2 0 []) (hN0 : N ≤ hn g .mk) (hn0 : (0 + zs.length) * (y + 1) ≤ Go.Ai.most)
  (hk : ∀ v' g' bs, OT g' bs v' (.l 2 (rMergeS zs)) → Bl N (hn g' .mk) bs → hn g .mk ≤ hn g' .mk → (∀ g0 : H2, hn g0 .mk ≤ N → g0.le g → g0.le g') → (∀ b, b < hn g .mk → blockOf x ≠ some b → hg g' b .mk = hg g b .mk) → kz K v' g' .mk) :
  az (biz P g .append [t, u] [x, .sl f 2 (rMergeS zs)] .mk) K .mk := by
 refine append_own (z := 1) (N := N) (m := zs.length) (news := flatX f 0 (rMergeS zs)) he hz hl hu hx hN0 ?_ flat_mlen (OTs.okx (flat_merges (g := g))) hn0 ?_
 ·simp only [srcX, if_true, rMergeS_len]
 intro v' g' o n1 l1 f1
 obtain ⟨bs, o', bl'⟩ := Gr.tree (es := rMergeS zs) (bs := []) ⟨_, o, by rw [List.nil_append]; exact flat_merges, .nil, fun b _ => by simp⟩ (by rw [rMergeS_len]; omega) (fun e he => by obtain ⟨x, _, rfl⟩ := List.mem_map.1 he; rfl)
 exact hk v' g' bs o' bl' n1 l1 f1
theorem cloneMerges_new {f : Adr} {zs : List LMerge} {g : H2} (hs : zs.length ≤ 1048576) : NewT Tryz.prog W0 132 [.sl f 2 (rMergeS zs)] g (.l 2 (rMergeS zs)) := by
 refine WC2.asm fun hp s o => ?_
 have hnil := nil_of (o _ List.mem_cons_self)
 refine begins [[0], [0], [], [0]] Tryz.func132 rfl (rs := [.tmp 2]) rfl rfl ?_
 intro wf
 repeat (first | rw [ko] | rw [kr] | simp -dsimp -implicitDefEqProofs only [go_sem])
 refine gz_intro (fun h1 => ?_) (fun h1 => ?_)
 ·have : zs = [] := by have := hnil h1; simpa [rMergeS] using this
  subst this
  repeat (first | rw [ko] | rw [kr] | simp -dsimp -implicitDefEqProofs only [go_sem])
  exact ⟨H2.le.refl _, [], .nil, .nil⟩
 ·repeat (first | rw [ko] | rw [kr] | simp -dsimp -implicitDefEqProofs only [go_sem, rq1, rq2, rq3])
  refine append_merges (P := Tryz.prog) (D := fun _ => none) (N := hn g .mk) Go.Ai.ty_el24 Go.Ai.ty_zr169 rfl Go.Ai.ty_cl24 (Own.new (Nat.le_refl _) rfl) (by simp only [hn_push]; omega) (by have : Go.Ai.most = 1099511627776 := rfl; omega) ?_
  intro v' g' bs o' bl' n1 hle _
  repeat (first | rw [ko] | rw [kr] | simp -dsimp -implicitDefEqProofs only [go_sem])
  exact ⟨hle g (Nat.le_refl _) (H2.le_push1 g _), bs, o', bl'⟩
theorem cloneMatrix_new {F : Nat → Adr} {c : LMatrix} {g : H2} (hs : szMatrix c ≤ 1048576) : NewS Tryz.prog W0 135 [.st (xMatrix F c)] g (eMatrix c) := by
 unfold szMatrix at hs
 refine begins [[0], [1, 2], [1, 2]] Tryz.func135 rfl (rs := [.cell 2 29]) rfl rfl ?_
 intro wf
 have hne : (hn g .mk == hn g .mk + 1) = false := by simp
 have hne' : (hn g .mk + 1 == hn g .mk) = false := by simp
 repeat (first | rw [ko] | rw [kr] | simp -dsimp -implicitDefEqProofs only [go_sem, hoo])
 refine dq_intro [(0, []), (1, []), (3, []), (4, []), (2, [4]), (6, []), (5, []), (7, []), (8, []), (9, [])] (by kernel_rfl) ?_
 repeat (first | rw [ko] | rw [kr] | simp -dsimp -implicitDefEqProofs only [go_sem, hoo, hne])
 refine wz_intro (cloneLists_new (by omega)) ?_
 rintro s1 g1 ⟨l1, b1, o1, bl1⟩
 have c1 := OT.cell o1
 have n1 := l1.1
 simp only [hn_push] at n1 bl1
 have a1 := l1.2 (hn g .mk) (by simp only [hn_push]; omega)
 have a2 := l1.2 (hn g .mk + 1) (by simp only [hn_push]; omega)
 simp -dsimp -implicitDefEqProofs only [go_sem, hoo, hne] at a1 a2
 try (rw [kq]; refine ⟨by simp -dsimp -implicitDefEqProofs only [go_sem, hoo, a1], ?_⟩)
 repeat (first | rw [ko] | rw [kr] | simp -dsimp -implicitDefEqProofs only [go_sem, rq1, hoo])
 refine wz_intro (cloneLists_new (by omega)) ?_
 rintro s2 g2 ⟨l2, b2, o2, bl2⟩
 have c2 := OT.cell o2
 have n2 := l2.1
 try simp only [hn_push, hn_set] at n2 bl2
 have a3 := l2.2 (hn g .mk) zau
 have a4 := l2.2 (hn g .mk + 1) zau
 simp -dsimp -implicitDefEqProofs only [go_sem, a1, a2] at a3 a4
 try (rw [kq]; refine ⟨zsm, ?_⟩)
 repeat (first | rw [ko] | rw [kr] | simp -dsimp -implicitDefEqProofs only [go_sem, rq1, rq2, hoo, hne', a3, a4, c1, c2])
 have o1' := o1.keep l2 bl1
 have L2 : g.le g2 := H2.le.trans (H2.le.trans (le_push (le_push (H2.le.refl _))) l1) l2
 refine ⟨zale, _, _, rfl, outMatrix (c := c) (by repeat (first | exact o1' | refine OT.setN ?_ bl1 (by omega))) (by repeat (first | exact o2 | refine OT.setN ?_ bl2 (by omega))), ?_⟩
 simp only [hn_set]
 exact (bl1.append bl2 (by omega) (by omega)).wide (by omega) (Nat.le_refl _)
theorem copyMatrix_new {F : Nat → Adr} {c : LMatrix} {g : H2} (hs : szMatrix c ≤ 1048576) : NewS Tryz.prog W0 145 [.st (xMatrix F c)] g (eMatrix c) := by
 unfold szMatrix at hs
 refine begins [[0], [1, 2], [1, 2], [1, 2]] Tryz.func145 rfl (rs := [.cell 2 29]) rfl rfl ?_
 intro wf
 have hne : (hn g .mk == hn g .mk + 1) = false := by simp
 have hne' : (hn g .mk + 1 == hn g .mk) = false := by simp
 repeat (first | rw [ko] | rw [kr] | simp -dsimp -implicitDefEqProofs only [go_sem, hoo, hne])
 refine wz_intro (copyLists_new (by omega)) ?_
 rintro s1 g1 ⟨l1, b1, o1, bl1⟩
 have c1 := OT.cell o1
 have n1 := l1.1
 simp only [hn_push] at n1 bl1
 have a1 := l1.2 (hn g .mk) (by simp only [hn_push]; omega)
 have a2 := l1.2 (hn g .mk + 1) (by simp only [hn_push]; omega)
 simp -dsimp -implicitDefEqProofs only [go_sem, hoo, hne] at a1 a2
 repeat (first | rw [ko] | rw [kr] | simp -dsimp -implicitDefEqProofs only [go_sem, rq1, hoo, a1, c1])
 refine wz_intro (copyLists_new (by omega)) ?_
 rintro s2 g2 ⟨l2, b2, o2, bl2⟩
 have c2 := OT.cell o2
 have n2 := l2.1
 try simp only [hn_set] at n2 bl2
 have a3 := l2.2 (hn g .mk) zau
 have a4 := l2.2 (hn g .mk + 1) zau
 simp -dsimp -implicitDefEqProofs only [go_sem, hoo, hne', a2] at a3 a4
 repeat (first | rw [ko] | rw [kr] | simp -dsimp -implicitDefEqProofs only [go_sem, rq1, rq2, hoo, hne', a3, a4, c1, c2])
 have o1' := (o1.setN bl1 (by omega)).keep l2 (by simpa only [hn_set] using bl1)
 have L2 : g.le g2 := H2.le.trans (le_set (H2.le.trans (le_push (le_push (H2.le.refl _))) l1) (Nat.le_refl _)) l2
 refine ⟨zale, _, _, rfl, outMatrix (c := c) (by repeat (first | exact o1' | refine OT.setN ?_ bl1 (by omega))) (by repeat (first | exact o2 | refine OT.setN ?_ bl2 (by omega))), ?_⟩
 simp only [hn_set]
 exact (bl1.append bl2 (by omega) (by omega)).wide (by omega) (Nat.le_refl _)
end Go.Bi
end
