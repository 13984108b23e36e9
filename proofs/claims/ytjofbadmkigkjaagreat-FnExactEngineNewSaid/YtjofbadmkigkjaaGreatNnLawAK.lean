/- Own lemmas that the theorem of this claim needs: the abstract machine and walks of functions. -/
import Derived.Test.YtjofbadmkigkjaaGreatNnLawAA
import Derived.Test.YtjofbadmkigkjaaGreatNnLawAB
import Derived.Test.YtjofbadmkigkjaaGreatNnLawAC
import Derived.Test.YtjofbadmkigkjaaGreatNnLawAD
import Derived.Test.YtjofbadmkigkjaaGreatNnLawAE
import Derived.Test.YtjofbadmkigkjaaGreatNnLawAF
import Derived.Test.YtjofbadmkigkjaaGreatNnLawAG
import Derived.Test.YtjofbadmkigkjaaGreatNnLawAH
import Derived.Test.YtjofbadmkigkjaaGreatNnLawAI
import Derived.Test.YtjofbadmkigkjaaGreatNnLawAJ
open Nat renaming reduceBEq → rq1, reduceAdd → rq2, reduceLeDiff → rq3, reduceMul → rq4
open Int renaming reduceLE → rq5, reduceLT → rq6, reduceBEq → rq7
section
set_option linter.unusedSimpArgs false
set_option linter.unusedVariables false
set_option maxRecDepth 20000
namespace Go.Bi
open Go.Proofs
open Go.Ai (wrap_i64 wrap_u8)
variable {W0 : World} {P : Program}
set_option maxHeartbeats 4000000
def HePart (W0 : World) (e : LPart) (a b : Int) : Prop := ∃ (k1 : Int), e.shift = a ∧ (HhIntS W0 e.values (a + 1) k1 ∧ a + 1 ≤ k1) ∧ b = k1 ∧ 0 ≤ a ∧ b ≤ 4611686018427387904
def HhPartS (W0 : World) (c : List LPart) (a b : Int) : Prop := ∀ f g, PW Tryz.prog W0 269 [.sl f 2 (rPartS c), .raw (.int .i64 a)] g (fun y => y = .raw (.int .i64 b))
theorem heldPartS_ch {c : List LPart} {k0 k1 : Int} (h : Ch (HePart W0) k0 c k1) (hl : c.length ≤ 4611686018427387904) : HhPartS W0 c k0 k1 := by
  intro f g
  refine PW.scalar ?_
  refine start (P := Tryz.prog) [[0, 1], [0, 1], [0, 1, 5], [0, 1, 5], [0, 1, 5], [], [0, 1, 5], [0, 1, 5], [0, 1, 5], [], [1]] (by kernel_rfl) Tryz.func269 rfl (by decide) (by decide +kernel) (rs := [.tmp 4]) rfl rfl (Nat.le_of_ble_eq_true rfl) ?_
  intro wf
  repeat (first | rw [kz_o] | rw [kz_r0] | simp -dsimp -implicitDefEqProofs only [go_sem, rq1, rq2, rq3, rq4, rq5, rq6, rq7])
  refine lz_keep [0] (fun m e h' => ∃ (i : Nat) (a : Int), g.le h' ∧ look e 5 .mk = .raw (.int .i64 (i : Nat)) ∧ look e 1 .mk = .raw (.int .i64 a) ∧ m + i = c.length ∧ Ch (HePart W0) a (c.drop i) k1) c.length ?_ ?_
  · exact ⟨0, k0, H2.le.refl _, by simp -dsimp -implicitDefEqProofs only [go_sem, rq1, rq2, rq3, rq4, rq5, rq6, rq7], by simp -dsimp -implicitDefEqProofs only [go_sem, rq1, rq2, rq3, rq4, rq5, rq6, rq7], by omega, h⟩
  rintro m e h' hks ⟨i, a, hle, e5, e1, hm, hc⟩
  simp -dsimp -implicitDefEqProofs only [go_sem, rq1, rq2, rq3, rq4, rq5, rq6, rq7] at hks
  by_cases q1 : (i : Int) < (c.length : Int)
  · have q2 : i < c.length := by omega
    obtain ⟨b, hb, h0, hc'⟩ := hc.step q2
    obtain ⟨k1, f0, ⟨f1, l1⟩, hbe, ha0, hbt⟩ := hb
    have w1 : IntKind.i64.wrap ((i : Int) + 1) = ((i + 1 : Nat) : Int) := wrap_succ q2 (by omega)
    have d0 : decide (¬ (c.getD i default).shift = a) = false := decide_eq_false (fun h => h f0)
    have v0 : IntKind.i64.wrap (a + 1) = a + 1 := by rw [wrap_i64] <;> omega
    have q_1 : ¬ k1 < 0 := by omega
    repeat (first | rw [kz_o] | rw [kz_r0] | simp -dsimp -implicitDefEqProofs only [go_sem, rq1, rq2, rq3, rq4, rq5, rq6, rq7, hks, e5, e1, q1, q2, w1, d0, v0, q_1])
    refine pw_intro (f1 _ _) ?_
    rintro _ n1 hn1 rfl
    try simp only [hn_up] at hn1
    repeat (first | rw [kz_o] | rw [kz_r0] | simp -dsimp -implicitDefEqProofs only [go_sem, rq1, rq2, rq3, rq4, rq5, rq6, rq7, hks, e5, e1, q1, q2, w1, d0, v0, q_1])
    exact nx_keep (m - 1) (by omega) (by simp -dsimp -implicitDefEqProofs only [go_sem, rq1, rq2, rq3, rq4, rq5, rq6, rq7, hks]) ⟨i + 1, b, (le_up hle (by first | exact hn1 | (simp only [hn_up]; exact hn1))), by simp -dsimp -implicitDefEqProofs only [go_sem, rq1, rq2, rq3, rq4, rq5, rq6, rq7, w1], by simp -dsimp -implicitDefEqProofs only [go_sem, rq1, rq2, rq3, rq4, rq5, rq6, rq7, hbe], by omega, hc'⟩
  · repeat (first | rw [kz_o] | rw [kz_r0] | simp -dsimp -implicitDefEqProofs only [go_sem, rq1, rq2, rq3, rq4, rq5, rq6, rq7, hks, e5, e1, q1])
    exact ⟨hle, ⟨_, rfl⟩, by rw [hc.done (by omega)]⟩
theorem markPartS_tree {N : Nat} {bs : List Nat} {v : X} {zs : List LPart} {h : H2} {k0 : Int} (o : OT h bs v (.l 2 (rPartS zs))) (bl : Bl N (hn h .mk) bs) (hk : 0 ≤ k0 ∧ k0 + 64 * szPartS zs ≤ 4611686018427387904) :
    WC2 Tryz.prog W0 268 [v, .raw (.int .i64 k0)] h (fun r h' => ∃ (k1 : Int) (c' : List LPart), r = .raw (.int .i64 k1) ∧ k0 ≤ k1 ∧ k1 ≤ k0 + 64 * szPartS zs ∧ OT h' bs v (.l 2 (rPartS c')) ∧ HhPartS W0 c' k0 k1 ∧ hn h .mk ≤ hn h' .mk ∧ ∀ b, b < hn h .mk → b ∉ bs → h'.get b = h.get b) := by
  have hE : ∀ a, (ePart a).length = 2 := fun a => rfl
  have hsz : (zs.length : Int) ≤ szPartS zs := by unfold szPartS; omega
  rcases o.inv with ⟨rfl, rfl, he⟩ | ⟨b, bs', cs, rfl, rfl, hb, hcs, hz, oc⟩
  · have hzs : zs = [] := by cases zs <;> simp_all [rPartS]
    subst hzs
    refine start (P := Tryz.prog) [[0, 1], [0, 1], [0, 1, 5], [0, 1, 5], [0, 1, 5], [0, 1, 5], [0, 1, 5], [1]] (by kernel_rfl) Tryz.func268 rfl (by decide) (by decide +kernel) (rs := [.tmp 4]) rfl rfl (Nat.le_of_ble_eq_true rfl) ?_
    intro wf
    repeat (first | rw [kz_o] | rw [kz_r0] | simp -dsimp -implicitDefEqProofs only [go_sem, rq1, rq2, rq3, rq4, rq5, rq6, rq7])
    refine lz_keep [0] (fun m e h' => h' = h ∧ look e 5 .mk = .raw (.int .i64 0) ∧ look e 1 .mk = .raw (.int .i64 k0)) 0 ?_ ?_
    · exact ⟨rfl, by simp -dsimp -implicitDefEqProofs only [go_sem, rq1, rq2, rq3, rq4, rq5, rq6, rq7], by simp -dsimp -implicitDefEqProofs only [go_sem, rq1, rq2, rq3, rq4, rq5, rq6, rq7]⟩
    rintro m e h' hks ⟨rfl, e5, e1⟩
    simp -dsimp -implicitDefEqProofs only [go_sem, rq1, rq2, rq3, rq4, rq5, rq6, rq7] at hks
    have q1 : ¬ ((0 : Int) < ((0 : Nat) : Int)) := by decide
    repeat (first | rw [kz_o] | rw [kz_r0] | simp -dsimp -implicitDefEqProofs only [go_sem, rq1, rq2, rq3, rq4, rq5, rq6, rq7, hks, e5, e1, q1])
    exact ⟨k0, [], rfl, by omega, by omega, o, heldPartS_ch .nil (by decide), Nat.le_refl _, fun _ _ _ => rfl⟩
  · have hlen : (rPartS zs).length = zs.length := rPartS_len
    rw [hlen]
    refine start (P := Tryz.prog) [[0, 1], [0, 1], [0, 1, 5], [0, 1, 5], [0, 1, 5], [0, 1, 5], [0, 1, 5], [1]] (by kernel_rfl) Tryz.func268 rfl (by decide) (by decide +kernel) (rs := [.tmp 4]) rfl rfl (Nat.le_of_ble_eq_true rfl) ?_
    intro wf
    repeat (first | rw [kz_o] | rw [kz_r0] | simp -dsimp -implicitDefEqProofs only [go_sem, rq1, rq2, rq3, rq4, rq5, rq6, rq7])
    refine lz_keep [0] (fun m e h' => ∃ (i : Nat) (a : Int) (c' : List LPart), look e 5 .mk = .raw (.int .i64 (i : Nat)) ∧ look e 1 .mk = .raw (.int .i64 a) ∧ m + i = zs.length ∧ c'.length = i ∧ CurA h b 2 bs' h' (i * 2) ((c'.map ePart).flatten) (((zs.drop i).map ePart).flatten) ∧ Ch (HePart W0) k0 c' a ∧ k0 ≤ a ∧ a ≤ k0 + 64 * (i + sumN szPart (zs.take i))) zs.length ?_ ?_
    · exact ⟨0, k0, [], by simp -dsimp -implicitDefEqProofs only [go_sem, rq1, rq2, rq3, rq4, rq5, rq6, rq7], by simp -dsimp -implicitDefEqProofs only [go_sem, rq1, rq2, rq3, rq4, rq5, rq6, rq7], by omega, rfl, (CurA.start hb oc bl).cast (by omega) rfl rfl, .nil, by omega, by omega⟩
    rintro m e h' hks ⟨i, a, c', e5, e1, hm, hcl, cur0, ch, lo, hi⟩
    simp -dsimp -implicitDefEqProofs only [go_sem, rq1, rq2, rq3, rq4, rq5, rq6, rq7] at hks
    by_cases q1 : (i : Int) < (zs.length : Int)
    · have q2 : i < zs.length := by omega
      have hd : zs.drop i = zs.getD i default :: zs.drop (i + 1) := by rw [List.drop_eq_getElem_cons q2, List.getD_eq_getElem?_getD, List.getElem?_eq_getElem q2]; rfl
      have hst : sumN szPart (zs.take (i + 1)) = sumN szPart (zs.take i) + szPart (zs.getD i default) := sumN_take (f := szPart) q2
      have hle : sumN szPart (zs.take (i + 1)) ≤ sumN szPart zs := by
        have := sumN_append (f := szPart) (l := zs.take (i + 1)) (m := zs.drop (i + 1))
        rw [List.take_append_drop] at this
        omega
      have hsz2 : szPartS zs = zs.length + sumN szPart zs := rfl
      have hszE : szPart (zs.getD i default) = (zs.getD i default).values.length := rfl
      have w1 : IntKind.i64.wrap ((i : Int) + 1) = ((i + 1 : Nat) : Int) := wrap_succ q2 (by omega)
      have hi2 : (0 : Int) ≤ (i : Int) ∧ (i : Int) < (zs.length : Int) := by omega
      replace cur0 := cur0.cast (TB' := [.v (.int .i64 (zs.getD i default).shift), .l 1 (ints (zs.getD i default).values)] ++ ((zs.drop (i + 1)).map ePart).flatten) rfl rfl (by rw [hd]; rfl)
      simp only [List.cons_append, List.nil_append] at cur0
      obtain ⟨cs0, hblk0, hlt0, ⟨_, hget0⟩, hput0⟩ := cur0.put
      obtain ⟨cw0, hw0, cur1⟩ := hput0 (.int .i64 (a)) rfl
      try simp only [set_set] at cur1
      have v0 : IntKind.i64.wrap (a + 1) = a + 1 := by rw [wrap_i64] <;> omega
      obtain ⟨cs1, y1, bb1, hblk1, hlt1, hget1, oy1, bly1, fin1⟩ := cur1.row
      have hy1 := OT.cell oy1
      have es1 := set_same hblk1
      subst es1
      repeat (first | rw [kz_o] | rw [kz_r0] | simp -dsimp -implicitDefEqProofs only [go_sem, rq1, rq2, rq3, rq4, rq5, rq6, rq7, hks, e5, e1, q1, q2, hi2, nat_nn, Int.toNat_natCast, hoo, w1, hblk0, hw0, v0, hblk1, hget1, hy1])
      refine wz_intro (markIntS_tree oy1 bly1 ⟨by omega, by omega⟩) ?_
      rintro _ g1 ⟨k1, x1, rfl, lo1, hi1, o1, hh1, nn1, fr1⟩
      have cur2 := fin1 g1 _ o1 nn1 fr1
      repeat (first | rw [kz_o] | rw [kz_r0] | simp -dsimp -implicitDefEqProofs only [go_sem, rq1, rq2, rq3, rq4, rq5, rq6, rq7, hks, e5, e1, q1, q2, hi2, nat_nn, Int.toNat_natCast, hoo, w1])
      refine nx_keep (m - 1) (by omega) (by simp -dsimp -implicitDefEqProofs only [go_sem, rq1, rq2, rq3, rq4, rq5, rq6, rq7, hks]) ⟨i + 1, k1, c' ++ [(⟨a, x1⟩ : LPart)], by simp -dsimp -implicitDefEqProofs only [go_sem, rq1, rq2, rq3, rq4, rq5, rq6, rq7, w1], by simp -dsimp -implicitDefEqProofs only [go_sem, rq1, rq2, rq3, rq4, rq5, rq6, rq7], by omega, by simp [hcl], cur2.cast (by omega) (by simp [ePart, List.append_assoc]) rfl, ch.snoc ⟨k1, rfl, ⟨hh1, lo1⟩, rfl, by omega, by omega⟩ (by omega), by omega, by omega⟩
    · repeat (first | rw [kz_o] | rw [kz_r0] | simp -dsimp -implicitDefEqProofs only [go_sem, rq1, rq2, rq3, rq4, rq5, rq6, rq7, hks, e5, e1, q1])
      have hi3 : i = zs.length := by omega
      rw [hi3] at cur0 hi
      rw [List.take_length] at hi
      rw [List.drop_length] at cur0
      have hcl2 : (rPartS c').length = zs.length := by rw [rPartS_len, hcl, hi3]
      obtain ⟨f1, f2, f3⟩ := CurA.full (es := rPartS c') cur0 (by rw [hcl2]) (fun e he => by
        obtain ⟨x, _, rfl⟩ := List.mem_map.1 he
        exact hE x)
      rw [hcl2] at f1
      exact ⟨a, c', rfl, lo, hi, f1, heldPartS_ch ch (by rw [hcl]; omega), f2, f3⟩
def HhPartSS (W0 : World) (c : List (List LPart)) (a b : Int) : Prop := ∀ f g, PW Tryz.prog W0 250 [.sl f 1 (rPartSS c), .raw (.int .i64 a)] g (fun y => y = .raw (.int .i64 b))
theorem heldPartSS_ch {c : List (List LPart)} {k0 k1 : Int} (h : Ch (HhPartS W0) k0 c k1) (hl : c.length ≤ 4611686018427387904) : HhPartSS W0 c k0 k1 := by
  intro f g
  refine PW.scalar ?_
  refine start (P := Tryz.prog) [[0, 1], [0, 1], [0, 1, 5], [0, 1, 5], [0, 1, 5], [0, 1, 5], [], [1]] (by kernel_rfl) Tryz.func250 rfl (by decide) (by decide +kernel) (rs := [.tmp 4]) rfl rfl (Nat.le_of_ble_eq_true rfl) ?_
  intro wf
  repeat (first | rw [kz_o] | rw [kz_r0] | simp -dsimp -implicitDefEqProofs only [go_sem, rq1, rq2, rq3, rq4, rq5, rq6, rq7])
  refine lz_keep [0] (fun m e h' => ∃ (i : Nat) (a : Int), g.le h' ∧ look e 5 .mk = .raw (.int .i64 (i : Nat)) ∧ look e 1 .mk = .raw (.int .i64 a) ∧ m + i = c.length ∧ Ch (HhPartS W0) a (c.drop i) k1) c.length ?_ ?_
  · exact ⟨0, k0, H2.le.refl _, by simp -dsimp -implicitDefEqProofs only [go_sem, rq1, rq2, rq3, rq4, rq5, rq6, rq7], by simp -dsimp -implicitDefEqProofs only [go_sem, rq1, rq2, rq3, rq4, rq5, rq6, rq7], by omega, h⟩
  rintro m e h' hks ⟨i, a, hle, e5, e1, hm, hc⟩
  simp -dsimp -implicitDefEqProofs only [go_sem, rq1, rq2, rq3, rq4, rq5, rq6, rq7] at hks
  by_cases q1 : (i : Int) < (c.length : Int)
  · have q2 : i < c.length := by omega
    obtain ⟨b, hb, h0, hc'⟩ := hc.step q2
    have w1 : IntKind.i64.wrap ((i : Int) + 1) = ((i + 1 : Nat) : Int) := wrap_succ q2 (by omega)
    have q3 : ¬ b < 0 := by omega
    repeat (first | rw [kz_o] | rw [kz_r0] | simp -dsimp -implicitDefEqProofs only [go_sem, rq1, rq2, rq3, rq4, rq5, rq6, rq7, hks, e5, e1, q1, q2])
    refine pw_intro (hb _ _) ?_
    rintro _ n hn1 rfl
    repeat (first | rw [kz_o] | rw [kz_r0] | simp -dsimp -implicitDefEqProofs only [go_sem, rq1, rq2, rq3, rq4, rq5, rq6, rq7, hks, e5, q3, w1])
    exact nx_keep (m - 1) (by omega) (by simp -dsimp -implicitDefEqProofs only [go_sem, rq1, rq2, rq3, rq4, rq5, rq6, rq7, hks]) ⟨i + 1, b, le_up hle hn1, by simp -dsimp -implicitDefEqProofs only [go_sem, rq1, rq2, rq3, rq4, rq5, rq6, rq7, w1], by simp -dsimp -implicitDefEqProofs only [go_sem, rq1, rq2, rq3, rq4, rq5, rq6, rq7], by omega, hc'⟩
  · repeat (first | rw [kz_o] | rw [kz_r0] | simp -dsimp -implicitDefEqProofs only [go_sem, rq1, rq2, rq3, rq4, rq5, rq6, rq7, hks, e5, e1, q1])
    exact ⟨hle, ⟨_, rfl⟩, by rw [hc.done (by omega)]⟩
theorem markPartSS_tree {N : Nat} {bs : List Nat} {v : X} {zs : List (List LPart)} {h : H2} {k0 : Int} (o : OT h bs v (.l 1 (rPartSS zs))) (bl : Bl N (hn h .mk) bs) (hk : 0 ≤ k0 ∧ k0 + 64 * szPartSS zs ≤ 4611686018427387904) :
    WC2 Tryz.prog W0 249 [v, .raw (.int .i64 k0)] h (fun r h' => ∃ (k1 : Int) (c' : List (List LPart)), r = .raw (.int .i64 k1) ∧ k0 ≤ k1 ∧ k1 ≤ k0 + 64 * szPartSS zs ∧ OT h' bs v (.l 1 (rPartSS c')) ∧ HhPartSS W0 c' k0 k1 ∧ hn h .mk ≤ hn h' .mk ∧ ∀ b, b < hn h .mk → b ∉ bs → h'.get b = h.get b) := by
  have hE : ∀ a, (ePartS a).length = 1 := fun a => rfl
  have hsz : (zs.length : Int) ≤ szPartSS zs := by unfold szPartSS; omega
  rcases o.inv with ⟨rfl, rfl, he⟩ | ⟨b, bs', cs, rfl, rfl, hb, hcs, hz, oc⟩
  · have hzs : zs = [] := by cases zs <;> simp_all [rPartSS]
    subst hzs
    refine start (P := Tryz.prog) [[0, 1], [0, 1], [0, 1, 5], [0, 1, 5], [0, 1, 5], [1]] (by kernel_rfl) Tryz.func249 rfl (by decide) (by decide +kernel) (rs := [.tmp 4]) rfl rfl (Nat.le_of_ble_eq_true rfl) ?_
    intro wf
    repeat (first | rw [kz_o] | rw [kz_r0] | simp -dsimp -implicitDefEqProofs only [go_sem, rq1, rq2, rq3, rq4, rq5, rq6, rq7])
    refine lz_keep [0] (fun m e h' => h' = h ∧ look e 5 .mk = .raw (.int .i64 0) ∧ look e 1 .mk = .raw (.int .i64 k0)) 0 ?_ ?_
    · exact ⟨rfl, by simp -dsimp -implicitDefEqProofs only [go_sem, rq1, rq2, rq3, rq4, rq5, rq6, rq7], by simp -dsimp -implicitDefEqProofs only [go_sem, rq1, rq2, rq3, rq4, rq5, rq6, rq7]⟩
    rintro m e h' hks ⟨rfl, e5, e1⟩
    simp -dsimp -implicitDefEqProofs only [go_sem, rq1, rq2, rq3, rq4, rq5, rq6, rq7] at hks
    have q1 : ¬ ((0 : Int) < ((0 : Nat) : Int)) := by decide
    repeat (first | rw [kz_o] | rw [kz_r0] | simp -dsimp -implicitDefEqProofs only [go_sem, rq1, rq2, rq3, rq4, rq5, rq6, rq7, hks, e5, e1, q1])
    exact ⟨k0, [], rfl, by omega, by omega, o, heldPartSS_ch .nil (by decide), Nat.le_refl _, fun _ _ _ => rfl⟩
  · have hlen : (rPartSS zs).length = zs.length := rPartSS_len
    rw [hlen]
    refine start (P := Tryz.prog) [[0, 1], [0, 1], [0, 1, 5], [0, 1, 5], [0, 1, 5], [1]] (by kernel_rfl) Tryz.func249 rfl (by decide) (by decide +kernel) (rs := [.tmp 4]) rfl rfl (Nat.le_of_ble_eq_true rfl) ?_
    intro wf
    repeat (first | rw [kz_o] | rw [kz_r0] | simp -dsimp -implicitDefEqProofs only [go_sem, rq1, rq2, rq3, rq4, rq5, rq6, rq7])
    refine lz_keep [0] (fun m e h' => ∃ (i : Nat) (a : Int) (c' : List (List LPart)), look e 5 .mk = .raw (.int .i64 (i : Nat)) ∧ look e 1 .mk = .raw (.int .i64 a) ∧ m + i = zs.length ∧ c'.length = i ∧ CurA h b 1 bs' h' i ((c'.map ePartS).flatten) (((zs.drop i).map ePartS).flatten) ∧ Ch (HhPartS W0) k0 c' a ∧ k0 ≤ a ∧ a ≤ k0 + 64 * (i + sumN szPartS (zs.take i))) zs.length ?_ ?_
    · exact ⟨0, k0, [], by simp -dsimp -implicitDefEqProofs only [go_sem, rq1, rq2, rq3, rq4, rq5, rq6, rq7], by simp -dsimp -implicitDefEqProofs only [go_sem, rq1, rq2, rq3, rq4, rq5, rq6, rq7], by omega, rfl, CurA.start hb oc bl, .nil, by omega, by omega⟩
    rintro m e h' hks ⟨i, a, c', e5, e1, hm, hcl, cur, ch, lo, hi⟩
    simp -dsimp -implicitDefEqProofs only [go_sem, rq1, rq2, rq3, rq4, rq5, rq6, rq7] at hks
    by_cases q1 : (i : Int) < (zs.length : Int)
    · have q2 : i < zs.length := by omega
      have hd : zs.drop i = zs.getD i default :: zs.drop (i + 1) := by rw [List.drop_eq_getElem_cons q2, List.getD_eq_getElem?_getD, List.getElem?_eq_getElem q2]; rfl
      have hst : sumN szPartS (zs.take (i + 1)) = sumN szPartS (zs.take i) + szPartS ((zs.getD i default)) := sumN_take (f := szPartS) q2
      have hle : sumN szPartS (zs.take (i + 1)) ≤ sumN szPartS zs := by
        have := sumN_append (f := szPartS) (l := zs.take (i + 1)) (m := zs.drop (i + 1))
        rw [List.take_append_drop] at this
        omega
      have hsz2 : szPartSS zs = zs.length + sumN szPartS zs := rfl
      have w1 : IntKind.i64.wrap ((i : Int) + 1) = ((i + 1 : Nat) : Int) := wrap_succ q2 (by omega)
      obtain ⟨cs2, y, bb, hblk, hblt, hget, oy, bly, fin⟩ := (cur.cast (TB' := .l 2 (rPartS (zs.getD i default)) :: ((zs.drop (i + 1)).map ePartS).flatten) rfl rfl (by rw [hd]; rfl)).row
      have hy := OT.cell oy
      have hi2 : (0 : Int) ≤ (i : Int) ∧ (i : Int) < (zs.length : Int) := by omega
      repeat (first | rw [kz_o] | rw [kz_r0] | simp -dsimp -implicitDefEqProofs only [go_sem, rq1, rq2, rq3, rq4, rq5, rq6, rq7, hks, e5, e1, q1, q2, hi2, hblk, hget, hy, nat_nn, Int.toNat_natCast])
      refine wz_intro (markPartS_tree oy bly ⟨by omega, by omega⟩) ?_
      rintro _ g' ⟨a', z', rfl, lo', hi', o', hh, nn, fr⟩
      have cur' := fin g' _ o' nn fr
      repeat (first | rw [kz_o] | rw [kz_r0] | simp -dsimp -implicitDefEqProofs only [go_sem, rq1, rq2, rq3, rq4, rq5, rq6, rq7, hks, e5, w1])
      refine nx_keep (m - 1) (by omega) (by simp -dsimp -implicitDefEqProofs only [go_sem, rq1, rq2, rq3, rq4, rq5, rq6, rq7, hks]) ⟨i + 1, a', c' ++ [z'], by simp -dsimp -implicitDefEqProofs only [go_sem, rq1, rq2, rq3, rq4, rq5, rq6, rq7, w1], by simp -dsimp -implicitDefEqProofs only [go_sem, rq1, rq2, rq3, rq4, rq5, rq6, rq7], by omega, by simp [hcl], cur'.cast rfl (by simp [ePartS]) rfl, ch.snoc hh (by omega), by omega, by omega⟩
    · repeat (first | rw [kz_o] | rw [kz_r0] | simp -dsimp -implicitDefEqProofs only [go_sem, rq1, rq2, rq3, rq4, rq5, rq6, rq7, hks, e5, e1, q1])
      have hi3 : i = zs.length := by omega
      rw [hi3] at cur hi
      rw [List.take_length] at hi
      rw [List.drop_length] at cur
      have hcl2 : (rPartSS c').length = zs.length := by rw [rPartSS_len, hcl, hi3]
      obtain ⟨f1, f2, f3⟩ := CurA.full (es := rPartSS c') cur (by rw [hcl2]; omega) (fun e he => by
        obtain ⟨x, _, rfl⟩ := List.mem_map.1 he
        exact hE x)
      rw [hcl2] at f1
      exact ⟨a, c', rfl, lo, hi, f1, heldPartSS_ch ch (by rw [hcl]; omega), f2, f3⟩
def HeCell (W0 : World) (e : LCell) (a b : Int) : Prop := ∃ (k0 k1 : Int), (HhPartSS W0 e.keys (a) k0 ∧ a ≤ k0) ∧ (HhPartSS W0 e.values (k0) k1 ∧ k0 ≤ k1) ∧ b = k1 ∧ 0 ≤ a ∧ b ≤ 4611686018427387904
def HhCellS (W0 : World) (c : List LCell) (a b : Int) : Prop := ∀ f g, PW Tryz.prog W0 223 [.sl f 2 (rCellS c), .raw (.int .i64 a)] g (fun y => y = .raw (.int .i64 b))
theorem heldCellS_ch {c : List LCell} {k0 k1 : Int} (h : Ch (HeCell W0) k0 c k1) (hl : c.length ≤ 4611686018427387904) : HhCellS W0 c k0 k1 := by
  intro f g
  refine PW.scalar ?_
  refine start (P := Tryz.prog) [[0, 1], [0, 1], [0, 1, 5], [0, 1, 5], [0, 1, 5], [0, 1, 5], [], [0, 1, 5], [0, 1, 5], [], [1]] (by kernel_rfl) Tryz.func223 rfl (by decide) (by decide +kernel) (rs := [.tmp 4]) rfl rfl (Nat.le_of_ble_eq_true rfl) ?_
  intro wf
  repeat (first | rw [kz_o] | rw [kz_r0] | simp -dsimp -implicitDefEqProofs only [go_sem, rq1, rq2, rq3, rq4, rq5, rq6, rq7])
  refine lz_keep [0] (fun m e h' => ∃ (i : Nat) (a : Int), g.le h' ∧ look e 5 .mk = .raw (.int .i64 (i : Nat)) ∧ look e 1 .mk = .raw (.int .i64 a) ∧ m + i = c.length ∧ Ch (HeCell W0) a (c.drop i) k1) c.length ?_ ?_
  · exact ⟨0, k0, H2.le.refl _, by simp -dsimp -implicitDefEqProofs only [go_sem, rq1, rq2, rq3, rq4, rq5, rq6, rq7], by simp -dsimp -implicitDefEqProofs only [go_sem, rq1, rq2, rq3, rq4, rq5, rq6, rq7], by omega, h⟩
  rintro m e h' hks ⟨i, a, hle, e5, e1, hm, hc⟩
  simp -dsimp -implicitDefEqProofs only [go_sem, rq1, rq2, rq3, rq4, rq5, rq6, rq7] at hks
  by_cases q1 : (i : Int) < (c.length : Int)
  · have q2 : i < c.length := by omega
    obtain ⟨b, hb, h0, hc'⟩ := hc.step q2
    obtain ⟨k0, k1, ⟨f0, l0⟩, ⟨f1, l1⟩, hbe, ha0, hbt⟩ := hb
    have w1 : IntKind.i64.wrap ((i : Int) + 1) = ((i + 1 : Nat) : Int) := wrap_succ q2 (by omega)
    have q_0 : ¬ k0 < 0 := by omega
    have q_1 : ¬ k1 < 0 := by omega
    repeat (first | rw [kz_o] | rw [kz_r0] | simp -dsimp -implicitDefEqProofs only [go_sem, rq1, rq2, rq3, rq4, rq5, rq6, rq7, hks, e5, e1, q1, q2, w1, q_0, q_1])
    refine pw_intro (f0 _ _) ?_
    rintro _ n0 hn0 rfl
    try simp only [hn_up] at hn0
    repeat (first | rw [kz_o] | rw [kz_r0] | simp -dsimp -implicitDefEqProofs only [go_sem, rq1, rq2, rq3, rq4, rq5, rq6, rq7, hks, e5, e1, q1, q2, w1, q_0, q_1])
    refine pw_intro (f1 _ _) ?_
    rintro _ n1 hn1 rfl
    try simp only [hn_up] at hn1
    repeat (first | rw [kz_o] | rw [kz_r0] | simp -dsimp -implicitDefEqProofs only [go_sem, rq1, rq2, rq3, rq4, rq5, rq6, rq7, hks, e5, e1, q1, q2, w1, q_0, q_1])
    exact nx_keep (m - 1) (by omega) (by simp -dsimp -implicitDefEqProofs only [go_sem, rq1, rq2, rq3, rq4, rq5, rq6, rq7, hks]) ⟨i + 1, b, (le_up (le_up hle (by first | exact hn0 | (simp only [hn_up]; exact hn0))) (by first | exact hn1 | (simp only [hn_up]; exact hn1))), by simp -dsimp -implicitDefEqProofs only [go_sem, rq1, rq2, rq3, rq4, rq5, rq6, rq7, w1], by simp -dsimp -implicitDefEqProofs only [go_sem, rq1, rq2, rq3, rq4, rq5, rq6, rq7, hbe], by omega, hc'⟩
  · repeat (first | rw [kz_o] | rw [kz_r0] | simp -dsimp -implicitDefEqProofs only [go_sem, rq1, rq2, rq3, rq4, rq5, rq6, rq7, hks, e5, e1, q1])
    exact ⟨hle, ⟨_, rfl⟩, by rw [hc.done (by omega)]⟩
theorem markCellS_tree {N : Nat} {bs : List Nat} {v : X} {zs : List LCell} {h : H2} {k0 : Int} (o : OT h bs v (.l 2 (rCellS zs))) (bl : Bl N (hn h .mk) bs) (hk : 0 ≤ k0 ∧ k0 + 64 * szCellS zs ≤ 4611686018427387904) :
    WC2 Tryz.prog W0 222 [v, .raw (.int .i64 k0)] h (fun r h' => ∃ (k1 : Int) (c' : List LCell), r = .raw (.int .i64 k1) ∧ k0 ≤ k1 ∧ k1 ≤ k0 + 64 * szCellS zs ∧ OT h' bs v (.l 2 (rCellS c')) ∧ HhCellS W0 c' k0 k1 ∧ hn h .mk ≤ hn h' .mk ∧ ∀ b, b < hn h .mk → b ∉ bs → h'.get b = h.get b) := by
  have hE : ∀ a, (eCell a).length = 2 := fun a => rfl
  have hsz : (zs.length : Int) ≤ szCellS zs := by unfold szCellS; omega
  rcases o.inv with ⟨rfl, rfl, he⟩ | ⟨b, bs', cs, rfl, rfl, hb, hcs, hz, oc⟩
  · have hzs : zs = [] := by cases zs <;> simp_all [rCellS]
    subst hzs
    refine start (P := Tryz.prog) [[0, 1], [0, 1], [0, 1, 5], [0, 1, 5], [0, 1, 5], [0, 1, 5], [1]] (by kernel_rfl) Tryz.func222 rfl (by decide) (by decide +kernel) (rs := [.tmp 4]) rfl rfl (Nat.le_of_ble_eq_true rfl) ?_
    intro wf
    repeat (first | rw [kz_o] | rw [kz_r0] | simp -dsimp -implicitDefEqProofs only [go_sem, rq1, rq2, rq3, rq4, rq5, rq6, rq7])
    refine lz_keep [0] (fun m e h' => h' = h ∧ look e 5 .mk = .raw (.int .i64 0) ∧ look e 1 .mk = .raw (.int .i64 k0)) 0 ?_ ?_
    · exact ⟨rfl, by simp -dsimp -implicitDefEqProofs only [go_sem, rq1, rq2, rq3, rq4, rq5, rq6, rq7], by simp -dsimp -implicitDefEqProofs only [go_sem, rq1, rq2, rq3, rq4, rq5, rq6, rq7]⟩
    rintro m e h' hks ⟨rfl, e5, e1⟩
    simp -dsimp -implicitDefEqProofs only [go_sem, rq1, rq2, rq3, rq4, rq5, rq6, rq7] at hks
    have q1 : ¬ ((0 : Int) < ((0 : Nat) : Int)) := by decide
    repeat (first | rw [kz_o] | rw [kz_r0] | simp -dsimp -implicitDefEqProofs only [go_sem, rq1, rq2, rq3, rq4, rq5, rq6, rq7, hks, e5, e1, q1])
    exact ⟨k0, [], rfl, by omega, by omega, o, heldCellS_ch .nil (by decide), Nat.le_refl _, fun _ _ _ => rfl⟩
  · have hlen : (rCellS zs).length = zs.length := rCellS_len
    rw [hlen]
    refine start (P := Tryz.prog) [[0, 1], [0, 1], [0, 1, 5], [0, 1, 5], [0, 1, 5], [0, 1, 5], [1]] (by kernel_rfl) Tryz.func222 rfl (by decide) (by decide +kernel) (rs := [.tmp 4]) rfl rfl (Nat.le_of_ble_eq_true rfl) ?_
    intro wf
    repeat (first | rw [kz_o] | rw [kz_r0] | simp -dsimp -implicitDefEqProofs only [go_sem, rq1, rq2, rq3, rq4, rq5, rq6, rq7])
    refine lz_keep [0] (fun m e h' => ∃ (i : Nat) (a : Int) (c' : List LCell), look e 5 .mk = .raw (.int .i64 (i : Nat)) ∧ look e 1 .mk = .raw (.int .i64 a) ∧ m + i = zs.length ∧ c'.length = i ∧ CurA h b 2 bs' h' (i * 2) ((c'.map eCell).flatten) (((zs.drop i).map eCell).flatten) ∧ Ch (HeCell W0) k0 c' a ∧ k0 ≤ a ∧ a ≤ k0 + 64 * (i + sumN szCell (zs.take i))) zs.length ?_ ?_
    · exact ⟨0, k0, [], by simp -dsimp -implicitDefEqProofs only [go_sem, rq1, rq2, rq3, rq4, rq5, rq6, rq7], by simp -dsimp -implicitDefEqProofs only [go_sem, rq1, rq2, rq3, rq4, rq5, rq6, rq7], by omega, rfl, (CurA.start hb oc bl).cast (by omega) rfl rfl, .nil, by omega, by omega⟩
    rintro m e h' hks ⟨i, a, c', e5, e1, hm, hcl, cur0, ch, lo, hi⟩
    simp -dsimp -implicitDefEqProofs only [go_sem, rq1, rq2, rq3, rq4, rq5, rq6, rq7] at hks
    by_cases q1 : (i : Int) < (zs.length : Int)
    · have q2 : i < zs.length := by omega
      have hd : zs.drop i = zs.getD i default :: zs.drop (i + 1) := by rw [List.drop_eq_getElem_cons q2, List.getD_eq_getElem?_getD, List.getElem?_eq_getElem q2]; rfl
      have hst : sumN szCell (zs.take (i + 1)) = sumN szCell (zs.take i) + szCell (zs.getD i default) := sumN_take (f := szCell) q2
      have hle : sumN szCell (zs.take (i + 1)) ≤ sumN szCell zs := by
        have := sumN_append (f := szCell) (l := zs.take (i + 1)) (m := zs.drop (i + 1))
        rw [List.take_append_drop] at this
        omega
      have hsz2 : szCellS zs = zs.length + sumN szCell zs := rfl
      have hszE : szCell (zs.getD i default) = szPartSS (zs.getD i default).keys + szPartSS (zs.getD i default).values := rfl
      have w1 : IntKind.i64.wrap ((i : Int) + 1) = ((i + 1 : Nat) : Int) := wrap_succ q2 (by omega)
      have hi2 : (0 : Int) ≤ (i : Int) ∧ (i : Int) < (zs.length : Int) := by omega
      replace cur0 := cur0.cast (TB' := [.l 1 (rPartSS (zs.getD i default).keys), .l 1 (rPartSS (zs.getD i default).values)] ++ ((zs.drop (i + 1)).map eCell).flatten) rfl rfl (by rw [hd]; rfl)
      simp only [List.cons_append, List.nil_append] at cur0
      obtain ⟨cs0, y0, bb0, hblk0, hlt0, hget0, oy0, bly0, fin0⟩ := cur0.row
      have hy0 := OT.cell oy0
      repeat (first | rw [kz_o] | rw [kz_r0] | simp -dsimp -implicitDefEqProofs only [go_sem, rq1, rq2, rq3, rq4, rq5, rq6, rq7, hks, e5, e1, q1, q2, hi2, nat_nn, Int.toNat_natCast, hoo, w1, hblk0, hget0, hy0])
      refine wz_intro (markPartSS_tree oy0 bly0 ⟨by omega, by omega⟩) ?_
      rintro _ g0 ⟨k0, x0, rfl, lo0, hi0, o0, hh0, nn0, fr0⟩
      have cur1 := fin0 g0 _ o0 nn0 fr0
      obtain ⟨cs1, y1, bb1, hblk1, hlt1, hget1, oy1, bly1, fin1⟩ := cur1.row
      have hy1 := OT.cell oy1
      repeat (first | rw [kz_o] | rw [kz_r0] | simp -dsimp -implicitDefEqProofs only [go_sem, rq1, rq2, rq3, rq4, rq5, rq6, rq7, hks, e5, e1, q1, q2, hi2, nat_nn, Int.toNat_natCast, hoo, w1, hblk1, hget1, hy1])
      refine wz_intro (markPartSS_tree oy1 bly1 ⟨by omega, by omega⟩) ?_
      rintro _ g1 ⟨k1, x1, rfl, lo1, hi1, o1, hh1, nn1, fr1⟩
      have cur2 := fin1 g1 _ o1 nn1 fr1
      repeat (first | rw [kz_o] | rw [kz_r0] | simp -dsimp -implicitDefEqProofs only [go_sem, rq1, rq2, rq3, rq4, rq5, rq6, rq7, hks, e5, e1, q1, q2, hi2, nat_nn, Int.toNat_natCast, hoo, w1])
      refine nx_keep (m - 1) (by omega) (by simp -dsimp -implicitDefEqProofs only [go_sem, rq1, rq2, rq3, rq4, rq5, rq6, rq7, hks]) ⟨i + 1, k1, c' ++ [(⟨x0, x1⟩ : LCell)], by simp -dsimp -implicitDefEqProofs only [go_sem, rq1, rq2, rq3, rq4, rq5, rq6, rq7, w1], by simp -dsimp -implicitDefEqProofs only [go_sem, rq1, rq2, rq3, rq4, rq5, rq6, rq7], by omega, by simp [hcl], cur2.cast (by omega) (by simp [eCell, List.append_assoc]) rfl, ch.snoc ⟨k0, k1, ⟨hh0, lo0⟩, ⟨hh1, lo1⟩, rfl, by omega, by omega⟩ (by omega), by omega, by omega⟩
    · repeat (first | rw [kz_o] | rw [kz_r0] | simp -dsimp -implicitDefEqProofs only [go_sem, rq1, rq2, rq3, rq4, rq5, rq6, rq7, hks, e5, e1, q1])
      have hi3 : i = zs.length := by omega
      rw [hi3] at cur0 hi
      rw [List.take_length] at hi
      rw [List.drop_length] at cur0
      have hcl2 : (rCellS c').length = zs.length := by rw [rCellS_len, hcl, hi3]
      obtain ⟨f1, f2, f3⟩ := CurA.full (es := rCellS c') cur0 (by rw [hcl2]) (fun e he => by
        obtain ⟨x, _, rfl⟩ := List.mem_map.1 he
        exact hE x)
      rw [hcl2] at f1
      exact ⟨a, c', rfl, lo, hi, f1, heldCellS_ch ch (by rw [hcl]; omega), f2, f3⟩
def HhCellSS (W0 : World) (c : List (List LCell)) (a b : Int) : Prop := ∀ f g, PW Tryz.prog W0 180 [.sl f 1 (rCellSS c), .raw (.int .i64 a)] g (fun y => y = .raw (.int .i64 b))
theorem heldCellSS_ch {c : List (List LCell)} {k0 k1 : Int} (h : Ch (HhCellS W0) k0 c k1) (hl : c.length ≤ 4611686018427387904) : HhCellSS W0 c k0 k1 := by
  intro f g
  refine PW.scalar ?_
  refine start (P := Tryz.prog) [[0, 1], [0, 1], [0, 1, 5], [0, 1, 5], [0, 1, 5], [0, 1, 5], [], [1]] (by kernel_rfl) Tryz.func180 rfl (by decide) (by decide +kernel) (rs := [.tmp 4]) rfl rfl (Nat.le_of_ble_eq_true rfl) ?_
  intro wf
  repeat (first | rw [kz_o] | rw [kz_r0] | simp -dsimp -implicitDefEqProofs only [go_sem, rq1, rq2, rq3, rq4, rq5, rq6, rq7])
  refine lz_keep [0] (fun m e h' => ∃ (i : Nat) (a : Int), g.le h' ∧ look e 5 .mk = .raw (.int .i64 (i : Nat)) ∧ look e 1 .mk = .raw (.int .i64 a) ∧ m + i = c.length ∧ Ch (HhCellS W0) a (c.drop i) k1) c.length ?_ ?_
  · exact ⟨0, k0, H2.le.refl _, by simp -dsimp -implicitDefEqProofs only [go_sem, rq1, rq2, rq3, rq4, rq5, rq6, rq7], by simp -dsimp -implicitDefEqProofs only [go_sem, rq1, rq2, rq3, rq4, rq5, rq6, rq7], by omega, h⟩
  rintro m e h' hks ⟨i, a, hle, e5, e1, hm, hc⟩
  simp -dsimp -implicitDefEqProofs only [go_sem, rq1, rq2, rq3, rq4, rq5, rq6, rq7] at hks
  by_cases q1 : (i : Int) < (c.length : Int)
  · have q2 : i < c.length := by omega
    obtain ⟨b, hb, h0, hc'⟩ := hc.step q2
    have w1 : IntKind.i64.wrap ((i : Int) + 1) = ((i + 1 : Nat) : Int) := wrap_succ q2 (by omega)
    have q3 : ¬ b < 0 := by omega
    repeat (first | rw [kz_o] | rw [kz_r0] | simp -dsimp -implicitDefEqProofs only [go_sem, rq1, rq2, rq3, rq4, rq5, rq6, rq7, hks, e5, e1, q1, q2])
    refine pw_intro (hb _ _) ?_
    rintro _ n hn1 rfl
    repeat (first | rw [kz_o] | rw [kz_r0] | simp -dsimp -implicitDefEqProofs only [go_sem, rq1, rq2, rq3, rq4, rq5, rq6, rq7, hks, e5, q3, w1])
    exact nx_keep (m - 1) (by omega) (by simp -dsimp -implicitDefEqProofs only [go_sem, rq1, rq2, rq3, rq4, rq5, rq6, rq7, hks]) ⟨i + 1, b, le_up hle hn1, by simp -dsimp -implicitDefEqProofs only [go_sem, rq1, rq2, rq3, rq4, rq5, rq6, rq7, w1], by simp -dsimp -implicitDefEqProofs only [go_sem, rq1, rq2, rq3, rq4, rq5, rq6, rq7], by omega, hc'⟩
  · repeat (first | rw [kz_o] | rw [kz_r0] | simp -dsimp -implicitDefEqProofs only [go_sem, rq1, rq2, rq3, rq4, rq5, rq6, rq7, hks, e5, e1, q1])
    exact ⟨hle, ⟨_, rfl⟩, by rw [hc.done (by omega)]⟩
theorem markCellSS_tree {N : Nat} {bs : List Nat} {v : X} {zs : List (List LCell)} {h : H2} {k0 : Int} (o : OT h bs v (.l 1 (rCellSS zs))) (bl : Bl N (hn h .mk) bs) (hk : 0 ≤ k0 ∧ k0 + 64 * szCellSS zs ≤ 4611686018427387904) :
    WC2 Tryz.prog W0 173 [v, .raw (.int .i64 k0)] h (fun r h' => ∃ (k1 : Int) (c' : List (List LCell)), r = .raw (.int .i64 k1) ∧ k0 ≤ k1 ∧ k1 ≤ k0 + 64 * szCellSS zs ∧ OT h' bs v (.l 1 (rCellSS c')) ∧ HhCellSS W0 c' k0 k1 ∧ hn h .mk ≤ hn h' .mk ∧ ∀ b, b < hn h .mk → b ∉ bs → h'.get b = h.get b) := by
  have hE : ∀ a, (eCellS a).length = 1 := fun a => rfl
  have hsz : (zs.length : Int) ≤ szCellSS zs := by unfold szCellSS; omega
  rcases o.inv with ⟨rfl, rfl, he⟩ | ⟨b, bs', cs, rfl, rfl, hb, hcs, hz, oc⟩
  · have hzs : zs = [] := by cases zs <;> simp_all [rCellSS]
    subst hzs
    refine start (P := Tryz.prog) [[0, 1], [0, 1], [0, 1, 5], [0, 1, 5], [0, 1, 5], [1]] (by kernel_rfl) Tryz.func173 rfl (by decide) (by decide +kernel) (rs := [.tmp 4]) rfl rfl (Nat.le_of_ble_eq_true rfl) ?_
    intro wf
    repeat (first | rw [kz_o] | rw [kz_r0] | simp -dsimp -implicitDefEqProofs only [go_sem, rq1, rq2, rq3, rq4, rq5, rq6, rq7])
    refine lz_keep [0] (fun m e h' => h' = h ∧ look e 5 .mk = .raw (.int .i64 0) ∧ look e 1 .mk = .raw (.int .i64 k0)) 0 ?_ ?_
    · exact ⟨rfl, by simp -dsimp -implicitDefEqProofs only [go_sem, rq1, rq2, rq3, rq4, rq5, rq6, rq7], by simp -dsimp -implicitDefEqProofs only [go_sem, rq1, rq2, rq3, rq4, rq5, rq6, rq7]⟩
    rintro m e h' hks ⟨rfl, e5, e1⟩
    simp -dsimp -implicitDefEqProofs only [go_sem, rq1, rq2, rq3, rq4, rq5, rq6, rq7] at hks
    have q1 : ¬ ((0 : Int) < ((0 : Nat) : Int)) := by decide
    repeat (first | rw [kz_o] | rw [kz_r0] | simp -dsimp -implicitDefEqProofs only [go_sem, rq1, rq2, rq3, rq4, rq5, rq6, rq7, hks, e5, e1, q1])
    exact ⟨k0, [], rfl, by omega, by omega, o, heldCellSS_ch .nil (by decide), Nat.le_refl _, fun _ _ _ => rfl⟩
  · have hlen : (rCellSS zs).length = zs.length := rCellSS_len
    rw [hlen]
    refine start (P := Tryz.prog) [[0, 1], [0, 1], [0, 1, 5], [0, 1, 5], [0, 1, 5], [1]] (by kernel_rfl) Tryz.func173 rfl (by decide) (by decide +kernel) (rs := [.tmp 4]) rfl rfl (Nat.le_of_ble_eq_true rfl) ?_
    intro wf
    repeat (first | rw [kz_o] | rw [kz_r0] | simp -dsimp -implicitDefEqProofs only [go_sem, rq1, rq2, rq3, rq4, rq5, rq6, rq7])
    refine lz_keep [0] (fun m e h' => ∃ (i : Nat) (a : Int) (c' : List (List LCell)), look e 5 .mk = .raw (.int .i64 (i : Nat)) ∧ look e 1 .mk = .raw (.int .i64 a) ∧ m + i = zs.length ∧ c'.length = i ∧ CurA h b 1 bs' h' i ((c'.map eCellS).flatten) (((zs.drop i).map eCellS).flatten) ∧ Ch (HhCellS W0) k0 c' a ∧ k0 ≤ a ∧ a ≤ k0 + 64 * (i + sumN szCellS (zs.take i))) zs.length ?_ ?_
    · exact ⟨0, k0, [], by simp -dsimp -implicitDefEqProofs only [go_sem, rq1, rq2, rq3, rq4, rq5, rq6, rq7], by simp -dsimp -implicitDefEqProofs only [go_sem, rq1, rq2, rq3, rq4, rq5, rq6, rq7], by omega, rfl, CurA.start hb oc bl, .nil, by omega, by omega⟩
    rintro m e h' hks ⟨i, a, c', e5, e1, hm, hcl, cur, ch, lo, hi⟩
    simp -dsimp -implicitDefEqProofs only [go_sem, rq1, rq2, rq3, rq4, rq5, rq6, rq7] at hks
    by_cases q1 : (i : Int) < (zs.length : Int)
    · have q2 : i < zs.length := by omega
      have hd : zs.drop i = zs.getD i default :: zs.drop (i + 1) := by rw [List.drop_eq_getElem_cons q2, List.getD_eq_getElem?_getD, List.getElem?_eq_getElem q2]; rfl
      have hst : sumN szCellS (zs.take (i + 1)) = sumN szCellS (zs.take i) + szCellS ((zs.getD i default)) := sumN_take (f := szCellS) q2
      have hle : sumN szCellS (zs.take (i + 1)) ≤ sumN szCellS zs := by
        have := sumN_append (f := szCellS) (l := zs.take (i + 1)) (m := zs.drop (i + 1))
        rw [List.take_append_drop] at this
        omega
      have hsz2 : szCellSS zs = zs.length + sumN szCellS zs := rfl
      have w1 : IntKind.i64.wrap ((i : Int) + 1) = ((i + 1 : Nat) : Int) := wrap_succ q2 (by omega)
      obtain ⟨cs2, y, bb, hblk, hblt, hget, oy, bly, fin⟩ := (cur.cast (TB' := .l 2 (rCellS (zs.getD i default)) :: ((zs.drop (i + 1)).map eCellS).flatten) rfl rfl (by rw [hd]; rfl)).row
      have hy := OT.cell oy
      have hi2 : (0 : Int) ≤ (i : Int) ∧ (i : Int) < (zs.length : Int) := by omega
      repeat (first | rw [kz_o] | rw [kz_r0] | simp -dsimp -implicitDefEqProofs only [go_sem, rq1, rq2, rq3, rq4, rq5, rq6, rq7, hks, e5, e1, q1, q2, hi2, hblk, hget, hy, nat_nn, Int.toNat_natCast])
      refine wz_intro (markCellS_tree oy bly ⟨by omega, by omega⟩) ?_
      rintro _ g' ⟨a', z', rfl, lo', hi', o', hh, nn, fr⟩
      have cur' := fin g' _ o' nn fr
      repeat (first | rw [kz_o] | rw [kz_r0] | simp -dsimp -implicitDefEqProofs only [go_sem, rq1, rq2, rq3, rq4, rq5, rq6, rq7, hks, e5, w1])
      refine nx_keep (m - 1) (by omega) (by simp -dsimp -implicitDefEqProofs only [go_sem, rq1, rq2, rq3, rq4, rq5, rq6, rq7, hks]) ⟨i + 1, a', c' ++ [z'], by simp -dsimp -implicitDefEqProofs only [go_sem, rq1, rq2, rq3, rq4, rq5, rq6, rq7, w1], by simp -dsimp -implicitDefEqProofs only [go_sem, rq1, rq2, rq3, rq4, rq5, rq6, rq7], by omega, by simp [hcl], cur'.cast rfl (by simp [eCellS]) rfl, ch.snoc hh (by omega), by omega, by omega⟩
    · repeat (first | rw [kz_o] | rw [kz_r0] | simp -dsimp -implicitDefEqProofs only [go_sem, rq1, rq2, rq3, rq4, rq5, rq6, rq7, hks, e5, e1, q1])
      have hi3 : i = zs.length := by omega
      rw [hi3] at cur hi
      rw [List.take_length] at hi
      rw [List.drop_length] at cur
      have hcl2 : (rCellSS c').length = zs.length := by rw [rCellSS_len, hcl, hi3]
      obtain ⟨f1, f2, f3⟩ := CurA.full (es := rCellSS c') cur (by rw [hcl2]; omega) (fun e he => by
        obtain ⟨x, _, rfl⟩ := List.mem_map.1 he
        exact hE x)
      rw [hcl2] at f1
      exact ⟨a, c', rfl, lo, hi, f1, heldCellSS_ch ch (by rw [hcl]; omega), f2, f3⟩
theorem heldStore_ok {c : LStore} {k0 k1 k2 : Int} (h0 : ∀ f g, PW Tryz.prog W0 177 [.sl f 1 (ints c.refs), .raw (.int .i64 k0)] g (fun y => y = .raw (.int .i64 k1))) (h1 : ∀ f g, PW Tryz.prog W0 180 [.sl f 1 (rCellSS c.pages), .raw (.int .i64 k1)] g (fun y => y = .raw (.int .i64 k2))) (p1 : 0 ≤ k1) (p2 : 0 ≤ k2) : ∀ F g, PW Tryz.prog W0 95 [.st (xStore F c), .raw (.int .i64 k0)] g (fun y => y = .raw (.int .i64 k2)) := by
  intro F h
  refine PW.scalar ?_
  refine start (P := Tryz.prog) [[0, 1], [1, 2], [1, 2], [], [1, 2], [1], [], [1]] (by kernel_rfl) Tryz.func95 rfl (by decide) (by decide +kernel) (rs := [.tmp 4]) rfl rfl (Nat.le_of_ble_eq_true rfl) ?_
  intro wf
  have q1 : ¬ k1 < 0 := by omega
  have q2 : ¬ k2 < 0 := by omega
  repeat (first | rw [kz_o] | rw [kz_r0] | simp -dsimp -implicitDefEqProofs only [go_sem, rq1, rq2, rq3, rq4, rq5, rq6, rq7])
  refine pw_intro (h0 _ _) ?_
  rintro _ n0 hn0 rfl
  repeat (first | rw [kz_o] | rw [kz_r0] | simp -dsimp -implicitDefEqProofs only [go_sem, rq1, rq2, rq3, rq4, rq5, rq6, rq7, q1])
  refine pw_intro (h1 _ _) ?_
  rintro _ n1 hn1 rfl
  repeat (first | rw [kz_o] | rw [kz_r0] | simp -dsimp -implicitDefEqProofs only [go_sem, rq1, rq2, rq3, rq4, rq5, rq6, rq7, q2])
  exact ⟨by repeat (first | exact H2.le.refl _ | apply le_push | refine le_up ?_ (by assumption)), ⟨_, rfl⟩, rfl⟩
theorem markStore_ok {N : Nat} {c : LStore} {h : H2} {k0 : Int} {b0 b1 : List Nat} {s0 s1 : X} (o0 : OT h b0 s0 (.l 1 (ints c.refs))) (o1 : OT h b1 s1 (.l 1 (rCellSS c.pages))) (bl : Bl N (hn h .mk) (b0 ++ b1)) (hk : 0 ≤ k0 ∧ k0 + 64 * szStore c ≤ 4611686018427387904) : WC2 Tryz.prog W0 92 [.st [s0, s1], .raw (.int .i64 k0)] h (fun r h' => ∃ (k1 : Int) (z0 : List Int) (z1 : List (List LCell)), r = .raw (.int .i64 k1) ∧ k0 ≤ k1 ∧ k1 ≤ k0 + 64 * szStore c ∧ (OT h' b0 s0 (.l 1 (ints z0)) ∧ OT h' b1 s1 (.l 1 (rCellSS z1))) ∧ (∀ F g, PW Tryz.prog W0 95 [.st (xStore F { c with refs := z0, pages := z1 }), .raw (.int .i64 k0)] g (fun y => y = .raw (.int .i64 k1))) ∧ hn h .mk ≤ hn h' .mk ∧ ∀ b, b < hn h .mk → b ∉ (b0 ++ b1) → h'.get b = h.get b) := by
  unfold szStore at *
  obtain ⟨bl0, rb0, D0⟩ := bl.split
  have bl1 := rb0
  have lj0 := bl0
  have lj1 := bl1
  refine start (P := Tryz.prog) [[0, 1], [1, 2], [1, 2], [1]] (by kernel_rfl) Tryz.func92 rfl (by decide) (by decide +kernel) (rs := [.tmp 4]) rfl rfl (Nat.le_of_ble_eq_true rfl) ?_
  intro wf
  repeat (first | rw [kz_o] | rw [kz_r0] | simp -dsimp -implicitDefEqProofs only [go_sem, rq1, rq2, rq3, rq4, rq5, rq6, rq7])
  replace o0 := fun k => OT.keep o0 (H2.le_push1 h k) lj0
  replace o1 := fun k => OT.keep o1 (H2.le_push1 h k) lj1
  refine wz_intro (markIntS_tree (o0 _) (bl0.wide (Nat.le_refl _) (by simp only [hn_push]; omega)) ⟨by omega, by omega⟩) ?_
  rintro _ g0 ⟨k1, z0, rfl, lo0, hi0, d0, hd0, n0, fr0⟩
  simp only [hn_push] at n0
  have a0 : hg g0 (hn h .mk) .mk = _ := fr0 (hn h .mk) (by simp only [hn_push]; omega) (fun hb => by have := (bl0.2 _ hb).2; omega)
  replace a0 : hg g0 (hn h .mk) .mk = hg (h.push _) (hn h .mk) .mk := a0
  simp -dsimp -implicitDefEqProofs only [go_sem, rq1, rq2, rq3, rq4, rq5, rq6, rq7, hoo] at a0
  replace o1 := OT.frame (g' := g0) (o1 _) fun b hb => fr0 b (by have := (lj1.2 b hb).2; simp only [hn_push]; omega) (fun hx => D0 b hx (by simp [hb]))
  repeat (first | rw [kz_o] | rw [kz_r0] | simp -dsimp -implicitDefEqProofs only [go_sem, rq1, rq2, rq3, rq4, rq5, rq6, rq7, a0])
  refine wz_intro (markCellSS_tree (o1) (bl1.wide (Nat.le_refl _) (by omega)) ⟨by omega, by omega⟩) ?_
  rintro _ g1 ⟨k2, z1, rfl, lo1, hi1, d1, hd1, n1, fr1⟩
  have a1 : hg g1 (hn h .mk) .mk = _ := fr1 (hn h .mk) (by omega) (fun hb => by have := (bl1.2 _ hb).2; omega)
  replace a1 : hg g1 (hn h .mk) .mk = hg g0 (hn h .mk) .mk := a1
  simp -dsimp -implicitDefEqProofs only [go_sem, rq1, rq2, rq3, rq4, rq5, rq6, rq7, hoo, a0] at a1
  replace d0 := OT.frame (g' := g1) d0 fun b hb => fr1 b (by have := (lj0.2 b hb).2; omega) (fun hx => D0 b (by simp [hb]) (by first | (simp [hx]; done) | (rcases List.mem_append.1 hx with hx | hx <;> simp [hx])))
  repeat (first | rw [kz_o] | rw [kz_r0] | simp -dsimp -implicitDefEqProofs only [go_sem, rq1, rq2, rq3, rq4, rq5, rq6, rq7, a1])
  refine ⟨k2, z0, z1, rfl, by omega, by omega, ⟨d0, d1⟩, heldStore_ok hd0 hd1 (by omega) (by omega), by omega, fun b hb hnb => ?_⟩
  simp only [List.mem_append, not_or] at hnb
  rw [fr1 b (by omega) hnb.2]
  rw [fr0 b (by simp only [hn_push]; omega) hnb.1]
  simp only [H2.push]; rw [if_neg (by unfold hn at hb; omega)]
end Go.Bi
end
section
set_option linter.unusedSimpArgs false
set_option linter.unusedVariables false
set_option maxRecDepth 20000
namespace Go.Bi
open Go.Proofs
open Go.Ai (wrap_i64 wrap_u8)
variable {W0 : World}
structure LConfig where
  top : Int
  seed : Int
  new : Int
  stops : List ByteArray
instance : Inhabited LConfig := ⟨⟨default, default, default, default⟩⟩
def xConfig (F : Nat → Adr) (c : LConfig) : List X := [.raw (.int .i64 c.top), .raw (.int .i64 c.seed), .raw (.int .i64 c.new), .sl (F 3) 1 (strs c.stops)]
theorem xConfig_def {F : Nat → Adr} {c : LConfig} : xConfig F c = [.raw (.int .i64 c.top), .raw (.int .i64 c.seed), .raw (.int .i64 c.new), .sl (F 3) 1 (strs c.stops)] := rfl
def szConfig (c : LConfig) : Nat := (c.stops.length + sumL c.stops)
def fitConfig (c : LConfig) : Prop := (c.stops.length ≤ 9223372036854775807 ∧ ∀ s ∈ c.stops, s.size ≤ 9223372036854775807)
attribute [go_sem] xConfig_def
theorem eqConfig_ok {F F' : Nat → Adr} {c : LConfig} {h : H2} (hf : fitConfig c) : PW Tryz.prog W0 42 [.st (xConfig F c), .st (xConfig F' c)] h (fun y => y = .raw (.bool true)) := by
  unfold fitConfig at hf
  refine PW.scalar ?_
  refine start (P := Tryz.prog) [[0, 1], [2, 3], [], [2, 3], [], [2, 3], [], [2, 3], [], []] (by kernel_rfl) Tryz.func42 rfl (by decide) (by decide +kernel) (rs := [.tmp 4]) rfl rfl (Nat.le_of_ble_eq_true rfl) ?_
  intro wf
  repeat (first | rw [kz_o] | rw [kz_r0] | simp -dsimp -implicitDefEqProofs only [go_sem, rq1, rq2, rq3, rq4, rq5, rq6, rq7])
  refine pw_intro (eqStringS_pw  hf.1) ?_
  rintro _ n3 hn3 rfl
  repeat (first | rw [kz_o] | rw [kz_r0] | simp -dsimp -implicitDefEqProofs only [go_sem, rq1, rq2, rq3, rq4, rq5, rq6, rq7])
  exact ⟨by repeat (first | exact H2.le.refl _ | apply le_push | refine le_up ?_ (by assumption)), ⟨_, rfl⟩, rfl⟩
structure LTable where
  pages : List Int
  count : Int
instance : Inhabited LTable := ⟨⟨default, default⟩⟩
def xTable (F : Nat → Adr) (c : LTable) : List X := [.sl (F 0) 1 (ints c.pages), .raw (.int .i64 c.count)]
theorem xTable_def {F : Nat → Adr} {c : LTable} : xTable F c = [.sl (F 0) 1 (ints c.pages), .raw (.int .i64 c.count)] := rfl
def szTable (c : LTable) : Nat := c.pages.length
def fitTable (c : LTable) : Prop := c.pages.length ≤ 9223372036854775807
attribute [go_sem] xTable_def
theorem eqTable_ok {F F' : Nat → Adr} {c : LTable} {h : H2} (hf : fitTable c) : PW Tryz.prog W0 221 [.st (xTable F c), .st (xTable F' c)] h (fun y => y = .raw (.bool true)) := by
  unfold fitTable at hf
  refine PW.scalar ?_
  refine start (P := Tryz.prog) [[0, 1], [2, 3], [], [2, 3], [], []] (by kernel_rfl) Tryz.func221 rfl (by decide) (by decide +kernel) (rs := [.tmp 4]) rfl rfl (Nat.le_of_ble_eq_true rfl) ?_
  intro wf
  repeat (first | rw [kz_o] | rw [kz_r0] | simp -dsimp -implicitDefEqProofs only [go_sem, rq1, rq2, rq3, rq4, rq5, rq6, rq7])
  refine pw_intro (eqIntS_pw  hf) ?_
  rintro _ n0 hn0 rfl
  repeat (first | rw [kz_o] | rw [kz_r0] | simp -dsimp -implicitDefEqProofs only [go_sem, rq1, rq2, rq3, rq4, rq5, rq6, rq7])
  exact ⟨by repeat (first | exact H2.le.refl _ | apply le_push | refine le_up ?_ (by assumption)), ⟨_, rfl⟩, rfl⟩
structure LRequest where
  prompt : Int
  tokens : List Int
  config : LConfig
  state : Int
  table : LTable
  status : Int
instance : Inhabited LRequest := ⟨⟨default, default, default, default, default, default⟩⟩
def eRequest (c : LRequest) : List T := [.v (.int .i64 c.prompt), .l 1 (ints c.tokens), .v (.int .i64 c.config.top), .v (.int .i64 c.config.seed), .v (.int .i64 c.config.new), .l 1 (strs c.config.stops), .v (.int .u64 c.state), .l 1 (ints c.table.pages), .v (.int .i64 c.table.count), .v (.int .i64 c.status)]
def xRequest (F : Nat → Adr) (c : LRequest) : List X := [.raw (.int .i64 c.prompt), .sl (F 1) 1 (ints c.tokens), .raw (.int .i64 c.config.top), .raw (.int .i64 c.config.seed), .raw (.int .i64 c.config.new), .sl (F 5) 1 (strs c.config.stops), .raw (.int .u64 c.state), .sl (F 7) 1 (ints c.table.pages), .raw (.int .i64 c.table.count), .raw (.int .i64 c.status)]
theorem eRequest_def {c : LRequest} : eRequest c = [.v (.int .i64 c.prompt), .l 1 (ints c.tokens), .v (.int .i64 c.config.top), .v (.int .i64 c.config.seed), .v (.int .i64 c.config.new), .l 1 (strs c.config.stops), .v (.int .u64 c.state), .l 1 (ints c.table.pages), .v (.int .i64 c.table.count), .v (.int .i64 c.status)] := rfl
theorem xRequest_def {F : Nat → Adr} {c : LRequest} : xRequest F c = [.raw (.int .i64 c.prompt), .sl (F 1) 1 (ints c.tokens), .raw (.int .i64 c.config.top), .raw (.int .i64 c.config.seed), .raw (.int .i64 c.config.new), .sl (F 5) 1 (strs c.config.stops), .raw (.int .u64 c.state), .sl (F 7) 1 (ints c.table.pages), .raw (.int .i64 c.table.count), .raw (.int .i64 c.status)] := rfl
def szRequest (c : LRequest) : Nat := c.tokens.length + szConfig c.config + szTable c.table
def fitRequest (c : LRequest) : Prop := c.tokens.length ≤ 9223372036854775807 ∧ fitConfig c.config ∧ fitTable c.table
attribute [go_sem] eRequest_def xRequest_def
theorem eqRequest_ok {F F' : Nat → Adr} {c : LRequest} {h : H2} (hf : fitRequest c) : PW Tryz.prog W0 167 [.st (xRequest F c), .st (xRequest F' c)] h (fun y => y = .raw (.bool true)) := by
  unfold fitRequest at hf
  refine PW.scalar ?_
  refine start (P := Tryz.prog) [[0, 1], [2, 3], [], [2, 3], [], [2, 3], [], [2, 3], [], [2, 3], [], [2, 3], [], []] (by kernel_rfl) Tryz.func167 rfl (by decide) (by decide +kernel) (rs := [.tmp 4]) rfl rfl (Nat.le_of_ble_eq_true rfl) ?_
  intro wf
  repeat (first | rw [kz_o] | rw [kz_r0] | simp -dsimp -implicitDefEqProofs only [go_sem, rq1, rq2, rq3, rq4, rq5, rq6, rq7])
  refine pw_intro (eqIntS_pw  hf.1) ?_
  rintro _ n1 hn1 rfl
  repeat (first | rw [kz_o] | rw [kz_r0] | simp -dsimp -implicitDefEqProofs only [go_sem, rq1, rq2, rq3, rq4, rq5, rq6, rq7])
  refine pw_intro (eqConfig_ok (F := fun j => F (j + 2)) (F' := fun j => F' (j + 2)) hf.2.1) ?_
  rintro _ n2 hn2 rfl
  repeat (first | rw [kz_o] | rw [kz_r0] | simp -dsimp -implicitDefEqProofs only [go_sem, rq1, rq2, rq3, rq4, rq5, rq6, rq7])
  refine pw_intro (eqTable_ok (F := fun j => F (j + 7)) (F' := fun j => F' (j + 7)) hf.2.2) ?_
  rintro _ n4 hn4 rfl
  repeat (first | rw [kz_o] | rw [kz_r0] | simp -dsimp -implicitDefEqProofs only [go_sem, rq1, rq2, rq3, rq4, rq5, rq6, rq7])
  exact ⟨by repeat (first | exact H2.le.refl _ | apply le_push | refine le_up ?_ (by assumption)), ⟨_, rfl⟩, rfl⟩
structure LAsk where
  op : Int
  text : ByteArray
  pos : Int
  config : LConfig
  picks : List Int
instance : Inhabited LAsk := ⟨⟨default, default, default, default, default⟩⟩
end Go.Bi
end
section
set_option linter.unusedSimpArgs false
set_option linter.unusedVariables false
set_option maxRecDepth 20000
namespace Go.Bi
open Go.Proofs
open Go.Ai (wrap_i64 wrap_u8)
variable {W0 : World}
def rRequestS (zs : List LRequest) : List (List T) := zs.map eRequest
theorem rRequestS_len {zs : List LRequest} : (rRequestS zs).length = zs.length := by simp [rRequestS]
theorem rRequestS_el {zs : List LRequest} {i : Nat} (hi : i < zs.length) : el (rRequestS zs) i = eRequest (zs.getD i default) := el_map hi
attribute [go_sem] rRequestS_len rRequestS_el
def szRequestS (zs : List LRequest) : Nat := zs.length + sumN szRequest zs
def fitRequestS (zs : List LRequest) : Prop := zs.length ≤ 9223372036854775807 ∧ ∀ x ∈ zs, fitRequest x
theorem eqRequestS_pw {f f' : Adr} {zs : List LRequest} {h : H2} (hf : fitRequestS zs) : PW Tryz.prog W0 69 [.sl f 10 (rRequestS zs), .sl f' 10 (rRequestS zs)] h (fun y => y = .raw (.bool true)) := by
  obtain ⟨hf1, hf2⟩ := hf
  refine PW.scalar ?_
  refine start (P := Tryz.prog) [[0, 1], [0, 1], [], [0, 1], [0, 1, 5], [0, 1, 5], [0, 1, 5], [], []] (by kernel_rfl) Tryz.func69 rfl (by decide) (by decide +kernel) (rs := [.tmp 4]) rfl rfl (Nat.le_of_ble_eq_true rfl) ?_
  intro wf
  repeat (first | rw [kz_o] | rw [kz_r0] | simp -dsimp -implicitDefEqProofs only [go_sem, rq1, rq2, rq3, rq4, rq5, rq6, rq7])
  refine lz_keep [0, 1] (fun m e h' => ∃ (k n : Nat), h' = h.up n ∧ hn h .mk ≤ n ∧ look e 5 .mk = .raw (.int .i64 k) ∧ m + k = zs.length) zs.length ?_ ?_
  · exact ⟨0, hn h .mk, up_self, Nat.le_refl _, by simp -dsimp -implicitDefEqProofs only [go_sem, rq1, rq2, rq3, rq4, rq5, rq6, rq7], by omega⟩
  · rintro m e h' hks ⟨k, n, rfl, hnn, e5, hk⟩
    simp -dsimp -implicitDefEqProofs only [go_sem, rq1, rq2, rq3, rq4, rq5, rq6, rq7] at hks
    by_cases h2 : (k : Int) < (zs.length : Int)
    · have h3 : k < zs.length := by omega
      repeat (first | rw [kz_o] | rw [kz_r0] | simp -dsimp -implicitDefEqProofs only [go_sem, rq1, rq2, rq3, rq4, rq5, rq6, rq7, hks, e5, h2])
      refine dq_intro [(0, []), (1, []), (2, []), (3, []), (4, []), (5, []), (6, []), (7, []), (8, []), (9, [])] (by kernel_rfl) ?_
      repeat (first | rw [kz_o] | rw [kz_r0] | simp -dsimp -implicitDefEqProofs only [go_sem, rq1, rq2, rq3, rq4, rq5, rq6, rq7, hks, e5, h3])
      refine pw_intro (eqRequest_ok (F := under (under f k)) (F' := under (under f' k)) (c := zs.getD k default) (hf2 _ (getD_mem h3))) ?_
      rintro _ n2 hn2 rfl
      simp only [hn_up] at hn2
      repeat (first | rw [kz_o] | rw [kz_r0] | simp -dsimp -implicitDefEqProofs only [go_sem, rq1, rq2, rq3, rq4, rq5, rq6, rq7, hks, e5, wrap_succ h3 hf1])
      exact nx_keep (m - 1) (by omega) (by simp -dsimp -implicitDefEqProofs only [go_sem, rq1, rq2, rq3, rq4, rq5, rq6, rq7, hks]) ⟨k + 1, n2, up_up, by omega, by simp -dsimp -implicitDefEqProofs only [go_sem, rq1, rq2, rq3, rq4, rq5, rq6, rq7], by omega⟩
    · repeat (first | rw [kz_o] | rw [kz_r0] | simp -dsimp -implicitDefEqProofs only [go_sem, rq1, rq2, rq3, rq4, rq5, rq6, rq7, hks, e5, h2])
      exact ⟨le_up (H2.le.refl _) hnn, ⟨_, rfl⟩, rfl⟩
structure LEngine where
  model : LModel
  store : LStore
  requests : List LRequest
instance : Inhabited LEngine := ⟨⟨default, default, default⟩⟩
def eEngine (c : LEngine) : List T := [.v (.int .i64 c.model.dim), .v (.int .i64 c.model.heads), .v (.int .i64 c.model.context), .l 2 (rMergeS c.model.merges), .l 1 (rIntSS c.model.embed), .l 32 (rLayerS c.model.layers), .l 1 (ints c.model.gainEnd), .v (.int .i64 c.model.head.width), .l 1 (rIntSS c.model.head.rows), .l 1 (rIntSS c.model.head.scales), .v (.int .i64 c.model.head.mul), .v (.int .i64 c.model.head.shift), .l 1 (rIntSS c.model.turns.cos), .l 1 (rIntSS c.model.turns.sin), .l 1 (ints c.store.refs), .l 1 (rCellSS c.store.pages), .l 10 (rRequestS c.requests)]
def xEngine (F : Nat → Adr) (c : LEngine) : List X := [.raw (.int .i64 c.model.dim), .raw (.int .i64 c.model.heads), .raw (.int .i64 c.model.context), .sl (F 3) 2 (rMergeS c.model.merges), .sl (F 4) 1 (rIntSS c.model.embed), .sl (F 5) 32 (rLayerS c.model.layers), .sl (F 6) 1 (ints c.model.gainEnd), .raw (.int .i64 c.model.head.width), .sl (F 8) 1 (rIntSS c.model.head.rows), .sl (F 9) 1 (rIntSS c.model.head.scales), .raw (.int .i64 c.model.head.mul), .raw (.int .i64 c.model.head.shift), .sl (F 12) 1 (rIntSS c.model.turns.cos), .sl (F 13) 1 (rIntSS c.model.turns.sin), .sl (F 14) 1 (ints c.store.refs), .sl (F 15) 1 (rCellSS c.store.pages), .sl (F 16) 10 (rRequestS c.requests)]
theorem xEngine_def {F : Nat → Adr} {c : LEngine} : xEngine F c = [.raw (.int .i64 c.model.dim), .raw (.int .i64 c.model.heads), .raw (.int .i64 c.model.context), .sl (F 3) 2 (rMergeS c.model.merges), .sl (F 4) 1 (rIntSS c.model.embed), .sl (F 5) 32 (rLayerS c.model.layers), .sl (F 6) 1 (ints c.model.gainEnd), .raw (.int .i64 c.model.head.width), .sl (F 8) 1 (rIntSS c.model.head.rows), .sl (F 9) 1 (rIntSS c.model.head.scales), .raw (.int .i64 c.model.head.mul), .raw (.int .i64 c.model.head.shift), .sl (F 12) 1 (rIntSS c.model.turns.cos), .sl (F 13) 1 (rIntSS c.model.turns.sin), .sl (F 14) 1 (ints c.store.refs), .sl (F 15) 1 (rCellSS c.store.pages), .sl (F 16) 10 (rRequestS c.requests)] := rfl
def szEngine (c : LEngine) : Nat := szModel c.model + szStore c.store + szRequestS c.requests
def fitEngine (c : LEngine) : Prop := fitModel c.model ∧ fitStore c.store ∧ fitRequestS c.requests
attribute [go_sem] xEngine_def
theorem invEngine {g : H2} {bs : List Nat} {ys : List X} {c : LEngine} (o : OTs g bs ys (eEngine c)) : ∃ b3 s3 b4 s4 b5 s5 b6 s6 b8 s8 b9 s9 b12 s12 b13 s13 b14 s14 b15 s15 b16 s16, ys = [.raw (.int .i64 c.model.dim), .raw (.int .i64 c.model.heads), .raw (.int .i64 c.model.context), s3, s4, s5, s6, .raw (.int .i64 c.model.head.width), s8, s9, .raw (.int .i64 c.model.head.mul), .raw (.int .i64 c.model.head.shift), s12, s13, s14, s15, s16] ∧ bs = b3 ++ (b4 ++ (b5 ++ (b6 ++ (b8 ++ (b9 ++ (b12 ++ (b13 ++ (b14 ++ (b15 ++ b16))))))))) ∧ OT g b3 s3 (.l 2 (rMergeS c.model.merges)) ∧ OT g b4 s4 (.l 1 (rIntSS c.model.embed)) ∧ OT g b5 s5 (.l 32 (rLayerS c.model.layers)) ∧ OT g b6 s6 (.l 1 (ints c.model.gainEnd)) ∧ OT g b8 s8 (.l 1 (rIntSS c.model.head.rows)) ∧ OT g b9 s9 (.l 1 (rIntSS c.model.head.scales)) ∧ OT g b12 s12 (.l 1 (rIntSS c.model.turns.cos)) ∧ OT g b13 s13 (.l 1 (rIntSS c.model.turns.sin)) ∧ OT g b14 s14 (.l 1 (ints c.store.refs)) ∧ OT g b15 s15 (.l 1 (rCellSS c.store.pages)) ∧ OT g b16 s16 (.l 10 (rRequestS c.requests)) := by
  unfold eEngine at o
  obtain ⟨ys0, rfl, o0⟩ := OTs.headv o
  obtain ⟨ys1, rfl, o1⟩ := OTs.headv o0
  obtain ⟨ys2, rfl, o2⟩ := OTs.headv o1
  obtain ⟨b3, bs3, s3, ys3, rfl, rfl, a3, o3⟩ := OTs.head o2
  obtain ⟨b4, bs4, s4, ys4, rfl, rfl, a4, o4⟩ := OTs.head o3
  obtain ⟨b5, bs5, s5, ys5, rfl, rfl, a5, o5⟩ := OTs.head o4
  obtain ⟨b6, bs6, s6, ys6, rfl, rfl, a6, o6⟩ := OTs.head o5
  obtain ⟨ys7, rfl, o7⟩ := OTs.headv o6
  obtain ⟨b8, bs8, s8, ys8, rfl, rfl, a8, o8⟩ := OTs.head o7
  obtain ⟨b9, bs9, s9, ys9, rfl, rfl, a9, o9⟩ := OTs.head o8
  obtain ⟨ys10, rfl, o10⟩ := OTs.headv o9
  obtain ⟨ys11, rfl, o11⟩ := OTs.headv o10
  obtain ⟨b12, bs12, s12, ys12, rfl, rfl, a12, o12⟩ := OTs.head o11
  obtain ⟨b13, bs13, s13, ys13, rfl, rfl, a13, o13⟩ := OTs.head o12
  obtain ⟨b14, bs14, s14, ys14, rfl, rfl, a14, o14⟩ := OTs.head o13
  obtain ⟨b15, bs15, s15, ys15, rfl, rfl, a15, o15⟩ := OTs.head o14
  obtain ⟨b16, bs16, s16, ys16, rfl, rfl, a16, o16⟩ := OTs.head o15
  obtain ⟨rfl, rfl⟩ := OTs.tail0 o16
  exact ⟨_, _, _, _, _, _, _, _, _, _, _, _, _, _, _, _, _, _, _, _, _, _, rfl, by simp only [List.append_nil], a3, a4, a5, a6, a8, a9, a12, a13, a14, a15, a16⟩
theorem outEngine {g : H2} {c : LEngine} {b3 b4 b5 b6 b8 b9 b12 b13 b14 b15 b16 : List Nat} {s3 s4 s5 s6 s8 s9 s12 s13 s14 s15 s16 : X} (a3 : OT g b3 s3 (.l 2 (rMergeS c.model.merges))) (a4 : OT g b4 s4 (.l 1 (rIntSS c.model.embed))) (a5 : OT g b5 s5 (.l 32 (rLayerS c.model.layers))) (a6 : OT g b6 s6 (.l 1 (ints c.model.gainEnd))) (a8 : OT g b8 s8 (.l 1 (rIntSS c.model.head.rows))) (a9 : OT g b9 s9 (.l 1 (rIntSS c.model.head.scales))) (a12 : OT g b12 s12 (.l 1 (rIntSS c.model.turns.cos))) (a13 : OT g b13 s13 (.l 1 (rIntSS c.model.turns.sin))) (a14 : OT g b14 s14 (.l 1 (ints c.store.refs))) (a15 : OT g b15 s15 (.l 1 (rCellSS c.store.pages))) (a16 : OT g b16 s16 (.l 10 (rRequestS c.requests))) : OTs g (b3 ++ (b4 ++ (b5 ++ (b6 ++ (b8 ++ (b9 ++ (b12 ++ (b13 ++ (b14 ++ (b15 ++ b16)))))))))) [.raw (.int .i64 c.model.dim), .raw (.int .i64 c.model.heads), .raw (.int .i64 c.model.context), s3, s4, s5, s6, .raw (.int .i64 c.model.head.width), s8, s9, .raw (.int .i64 c.model.head.mul), .raw (.int .i64 c.model.head.shift), s12, s13, s14, s15, s16] (eEngine c) := by
  have := OTs.cons (OT.raw (v := .int .i64 c.model.dim) rfl) (OTs.cons (OT.raw (v := .int .i64 c.model.heads) rfl) (OTs.cons (OT.raw (v := .int .i64 c.model.context) rfl) (OTs.cons a3 (OTs.cons a4 (OTs.cons a5 (OTs.cons a6 (OTs.cons (OT.raw (v := .int .i64 c.model.head.width) rfl) (OTs.cons a8 (OTs.cons a9 (OTs.cons (OT.raw (v := .int .i64 c.model.head.mul) rfl) (OTs.cons (OT.raw (v := .int .i64 c.model.head.shift) rfl) (OTs.cons a12 (OTs.cons a13 (OTs.cons a14 (OTs.cons a15 (OTs.cons a16 (OTs.nil)))))))))))))))))
  simpa only [eEngine, List.append_nil, List.nil_append] using this
theorem eqEngine_ok {F F' : Nat → Adr} {c : LEngine} {h : H2} (hf : fitEngine c) : PW Tryz.prog W0 21 [.st (xEngine F c), .st (xEngine F' c)] h (fun y => y = .raw (.bool true)) := by
  unfold fitEngine at hf
  refine PW.scalar ?_
  refine start (P := Tryz.prog) [[0, 1], [2, 3], [], [2, 3], [], [2, 3], [], []] (by kernel_rfl) Tryz.func21 rfl (by decide) (by decide +kernel) (rs := [.tmp 4]) rfl rfl (Nat.le_of_ble_eq_true rfl) ?_
  intro wf
  repeat (first | rw [kz_o] | rw [kz_r0] | simp -dsimp -implicitDefEqProofs only [go_sem, rq1, rq2, rq3, rq4, rq5, rq6, rq7])
  refine pw_intro (eqModel_ok (F := fun j => F (j + 0)) (F' := fun j => F' (j + 0)) hf.1) ?_
  rintro _ n0 hn0 rfl
  repeat (first | rw [kz_o] | rw [kz_r0] | simp -dsimp -implicitDefEqProofs only [go_sem, rq1, rq2, rq3, rq4, rq5, rq6, rq7])
  refine pw_intro (eqStore_ok (F := fun j => F (j + 14)) (F' := fun j => F' (j + 14)) hf.2.1) ?_
  rintro _ n1 hn1 rfl
  repeat (first | rw [kz_o] | rw [kz_r0] | simp -dsimp -implicitDefEqProofs only [go_sem, rq1, rq2, rq3, rq4, rq5, rq6, rq7])
  refine pw_intro (eqRequestS_pw  hf.2.2) ?_
  rintro _ n2 hn2 rfl
  repeat (first | rw [kz_o] | rw [kz_r0] | simp -dsimp -implicitDefEqProofs only [go_sem, rq1, rq2, rq3, rq4, rq5, rq6, rq7])
  exact ⟨by repeat (first | exact H2.le.refl _ | apply le_push | refine le_up ?_ (by assumption)), ⟨_, rfl⟩, rfl⟩
end Go.Bi
end
