/- Own lemmas that the theorem of this claim needs: the abstract machine and walks of functions. -/
import Derived.Test.YtegpkkefbmcddaaGreatQfLawAP
set_option linter.unusedSimpArgs false
set_option linter.unusedVariables false
open Nat renaming reduceBEq → sQ1, reduceAdd → sQ2, reduceLeDiff → sQ3, reduceMul → sQ4
open Int renaming reduceLE → sQ5, reduceLT → sQ6, reduceBEq → sQ7
section
set_option maxRecDepth 20000
namespace Go.Ai
open Go.Proofs
variable {W0 : World}
def BT (lo : List Int) (f i : Int) : Int := G1 (mxI (-1400) (DG (IntKind.i64.wrap (lo.getD i.toNat 0 - lo.getD f.toNat 0)) 64))
def chanceI (lo top : List Int) : List Int := if (top.all fun s => inI s 0 (lo.length - 1)) = true then top.map (BT lo (top.getD 0 0)) else []
theorem JW.int {h : Heap} {a : Option Addr} {n : Nat} {zs : List Int} (r : JW h a n (zs.map (.int .i64))) {i : Int} (hi : 0 ≤ i ∧ i < n) :
  ∃ b off w z cs, a = some ⟨b, off, none⟩ ∧ hg h b .mk = some ⟨w, z, cs⟩ ∧ b < hn h .mk ∧ cs[off + i.toNat]? = some (.int .i64 (zs.getD i.toNat 0)) := by
 have hlen := r.1
 simp at hlen
 obtain ⟨b, off, w, z, cs, h1, h2, h3, h4⟩ := r.2 i.toNat (by omega)
 refine ⟨b, off, w, z, cs, h1, h2, h3, ?_⟩
 rw [h4, List.getElem?_map, List.getD_eq_getElem?_getD, List.getElem?_eq_getElem (show i.toNat < zs.length by omega)]
 rfl
theorem implChanceOf_ok {a a' : Option Addr} {n c n' c' : Nat} {lo top : List Int} {h : Heap} (r : JW h a n (lo.map (.int .i64))) (r' : JW h a' n' (top.map (.int .i64))) (hn0 : n ≤ 1048576) (hn1 : n' ≤ 1048576) :
  WC Tryz.prog W0 148 [.slice a n c, .slice a' n' c'] h (fun v h' => (∃ m, Own (hn h .mk) h' v 1 m ((chanceI lo top).map (.int .i64))) ∧ h.le h') := by
 have hlen : n = lo.length := by have := r.1; simpa using this
 have hlen' : n' = top.length := by have := r'.1; simpa using this
 have hwn : IntKind.i64.wrap (n - 1) = (lo.length : Int) - 1 := by rw [wrap_i64] <;> omega
 refine start (P := Tryz.prog) [[0, 1], [0, 1], [], [0, 1], [0, 1, 5], [0, 1, 5, 15, 16, 17], [0, 1, 5, 15, 16, 17], [0, 1, 5, 7, 15, 16, 17], [0, 1, 5, 15, 16, 17], [5]] (by kernel_rfl) Tryz.func148 rfl (by decide) (by decide +kernel) (rs := [.tmp 4]) rfl rfl (Nat.le_of_ble_eq_true rfl) ?_
 repeat (first | rw [ko] | rw [kr] | simp -dsimp -implicitDefEqProofs only [go_sem, sQ1, hwn])
 refine AA (BN r' (by omega)) ?_
 rintro _ h1 ⟨rfl, l1⟩
 cases hall : (top.all fun s => inI s 0 ((lo.length : Int) - 1))
 ·repeat (first | rw [ko] | rw [kr] | simp -dsimp -implicitDefEqProofs only [go_sem, Bool.not_false])
  refine ⟨⟨0, ?_⟩, l1⟩
  rw [chanceI, hall]
  exact Own.nil
 ·repeat (first | rw [ko] | rw [kr] | simp -dsimp -implicitDefEqProofs only [go_sem, sQ1, decide_true, Bool.not_true, sQ3, Nat.zero_add])
  have hch : chanceI lo top = top.map (BT lo (top.getD 0 0)) := by rw [chanceI, if_pos hall]
  have hin : ∀ i : Nat, i < top.length → 0 ≤ top.getD i 0 ∧ top.getD i 0 < (n : Int) := by
   intro i hi
   have := List.all_eq_true.1 hall top[i] (List.getElem_mem hi)
   simp only [inI, Bool.and_eq_true, decide_eq_true_eq] at this
   rw [List.getD_eq_getElem?_getD, List.getElem?_eq_getElem hi]
   simp only [Option.getD_some]
   omega
  refine DZ (fun k e h' => look e 0 .mk = .slice a n c ∧ look e 1 .mk = .slice a' n' c' ∧ look e 15 .mk = .slice a' n' c' ∧ look e 16 .mk = .int .i64 n' ∧ h.le h' ∧ hn h .mk ≤ hn h' .mk ∧ ∃ (i : Int) (v : Value), look e 17 .mk = .int .i64 i ∧ look e 5 .mk = v ∧ 0 ≤ i ∧ (k : Int) + i = n' ∧ Own (hn h .mk) h' v 1 i.toNat (((top.map (BT lo (top.getD 0 0))).take i.toNat).map (.int .i64))) n' ?_ ?_
  ·refine ⟨?_, ?_, ?_, ?_, le_push l1, ?_, 0, _, ?_, rfl, by omega, by omega, ?_⟩
   ·simp -dsimp -implicitDefEqProofs only [go_sem, sQ1]
   ·simp -dsimp -implicitDefEqProofs only [go_sem, sQ1]
   ·simp -dsimp -implicitDefEqProofs only [go_sem]
   ·simp -dsimp -implicitDefEqProofs only [go_sem]
   ·have := l1.n; simp -dsimp -implicitDefEqProofs only [go_sem]; omega
   ·simp -dsimp -implicitDefEqProofs only [go_sem]
   ·have hnn : (hn h1 .mk == hn h1 .mk) = true := by simp
    refine ⟨by simp, some ⟨hn h1 .mk, 0, none⟩, 0, ?_, .inr ⟨hn h1 .mk, rfl, l1.n, ?_, ?_⟩⟩
    ·simp -dsimp -implicitDefEqProofs only [go_sem, sQ1]
     rfl
    ·simp -dsimp -implicitDefEqProofs only [go_sem]
    ·simp -dsimp -implicitDefEqProofs only [go_sem, hnn]
     rfl
  ·rintro k e h' ⟨e0, e1, e15, e16, l2, hN, i, v, e17, e5, hi, hk, ho⟩
   repeat (first | rw [ko] | rw [kr] | simp -dsimp -implicitDefEqProofs only [go_sem, e0, e1, e15, e16, e17, e5])
   refine AN (fun h2 => ?_) (fun h2 => ?_)
   ·obtain ⟨b1, off1, w1, z1, cs1, rfl, hb1, hlt1, hy1⟩ := (r'.mono l2).int (i := i) ⟨hi, h2⟩
    have hi2 : 0 ≤ i ∧ i < (n' : Int) := ⟨hi, h2⟩
    have hz2 : (0 : Int) ≤ 0 ∧ (0 : Int) < (n' : Int) := ⟨by omega, by omega⟩
    have hv2 : 0 ≤ top.getD i.toNat 0 ∧ top.getD i.toNat 0 < (n : Int) := hin _ (by omega)
    have hv3 : 0 ≤ top.getD 0 0 ∧ top.getD 0 0 < (n : Int) := hin _ (by omega)
    obtain ⟨b2, off2, w2, z2, cs2, e2, hb2, hlt2, hy2⟩ := (r'.mono l2).int (i := 0) hz2
    cases e2
    rw [hb1] at hb2
    cases hb2
    simp only [Int.toNat_zero, Nat.add_zero] at hy2
    obtain ⟨b3, off3, w3, z3, cs3, rfl, hb3, hlt3, hy3⟩ := (r.mono l2).int hv2
    obtain ⟨b4, off4, w4, z4, cs4, e4, hb4, hlt4, hy4⟩ := (r.mono l2).int hv3
    cases e4
    rw [hb3] at hb4
    cases hb4
    repeat (first | rw [ko] | rw [kr] | simp -dsimp -implicitDefEqProofs only [go_sem, sQ1, and_self, Nat.mul_one, hi2, hb1, hy1])
    refine AO [(0, []), (1, []), (2, []), (3, []), (4, []), (5, []), (6, []), (7, []), (8, []), (9, []), (10, []), (11, []), (12, []), (13, []), (14, []), (15, []), (16, []), (17, [])] (by kernel_rfl) ?_
    repeat (first | rw [ko] | rw [kr] | simp -dsimp -implicitDefEqProofs only [go_sem, sQ1, and_self, Nat.add_zero, Nat.mul_one, hz2, hv2, hv3, hb1, hy2, hb3, hy3, hy4, Int.toNat_zero])
    refine AA Km ?_
    rintro _ h6 ⟨rfl, rfl⟩
    repeat (first | rw [ko] | rw [kr] | simp -dsimp -implicitDefEqProofs only [go_sem])
    refine AA SA ?_
    rintro _ h' ⟨rfl, rfl⟩
    have Av : ∀ x : Nat, (x == x) = true := by simp
    repeat (first | rw [ko] | rw [kr] | simp -dsimp -implicitDefEqProofs only [go_sem, sQ1, decide_true, sQ3, Nat.zero_add, Nat.mul_one, Av])
    refine append_push (N := hn h .mk) (z := 0) (n := i.toNat) ty_el25 ty_zr3 rfl ty_cl25 ho hN (by have : most = 1099511627776 := rfl; omega) rfl rfl ?_
    intro v' h7 ho7 hn7 hle7 hk7
    repeat (first | rw [ko] | rw [kr] | simp -dsimp -implicitDefEqProofs only [go_sem, sQ1])
    have hw : IntKind.i64.wrap (i + 1) = i + 1 := by rw [wrap_i64] <;> omega
    refine ⟨k - 1, by omega, ?_, ?_, ?_, ?_, hle7 h (Nat.le_refl _) l2, by omega, i + 1, v', ?_, ?_, by omega, by omega, ?_⟩
    ·simp -dsimp -implicitDefEqProofs only [go_sem, sQ1]
    ·simp -dsimp -implicitDefEqProofs only [go_sem, sQ1]
    ·simp -dsimp -implicitDefEqProofs only [go_sem, sQ1]
    ·simp -dsimp -implicitDefEqProofs only [go_sem, sQ1]
    ·simp -dsimp -implicitDefEqProofs only [go_sem, hw]
    ·simp -dsimp -implicitDefEqProofs only [go_sem, sQ1]
    ·have hin2 : i.toNat < (top.map (BT lo (top.getD 0 0))).length := by simp; omega
     rw [show (i + 1).toNat = i.toNat + 1 by omega, List.take_succ_eq_append_getElem hin2, List.map_append]
     have he1 : (top.map (BT lo (top.getD 0 0)))[i.toNat] = G1 (mxI (-1400) (DG (IntKind.i64.wrap (lo.getD (top.getD i.toNat 0).toNat 0 - lo.getD (top.getD 0 0).toNat 0)) 64)) := by
      have hg1 : top.getD i.toNat 0 = top[i.toNat]'(by omega) := by
       rw [List.getD_eq_getElem?_getD, List.getElem?_eq_getElem (show i.toNat < top.length by omega)]; rfl
      simp only [List.getElem_map, BT, hg1]
     rw [List.map_cons, List.map_nil, he1]
     exact ho7
   ·repeat (first | rw [ko] | rw [kr] | simp -dsimp -implicitDefEqProofs only [go_sem, ↓reduceIte, sQ1])
    refine ⟨⟨i.toNat, ?_⟩, l2⟩
    have hin : i.toNat = (top.map (BT lo (top.getD 0 0))).length := by simp; omega
    rw [show (top.map (BT lo (top.getD 0 0))).take i.toNat = top.map (BT lo (top.getD 0 0)) from List.take_of_length_le (by omega)] at ho
    rw [hch]
    exact ho
end Go.Ai
end
section
set_option maxRecDepth 20000
namespace Go.Ai
open Go.Proofs
variable {W0 : World}
theorem specChanceOf_ok {a a' : Option Addr} {n c n' c' : Nat} {lo top : List Int} {h : Heap} (r : JW h a n (lo.map (.int .i64))) (r' : JW h a' n' (top.map (.int .i64))) (hn0 : n ≤ 1048576) (hn1 : n' ≤ 1048576) :
    WC Tryz.prog W0 194 [.slice a n c, .slice a' n' c'] h (fun v h' => (∃ m, Own (hn h .mk) h' v 1 m ((chanceI lo top).map (.int .i64))) ∧ h.le h') := by
  have hlen : n = lo.length := by have := r.1; simpa using this
  have hlen' : n' = top.length := by have := r'.1; simpa using this
  have hwn : IntKind.i64.wrap (n - 1) = (lo.length : Int) - 1 := by rw [wrap_i64] <;> omega
  have Av : ∀ x : Nat, (x == x) = true := by simp
  refine start (P := Tryz.prog) [[0, 1], [0, 1], [0, 1, 5], [0, 1, 5, 6], [0, 1, 5, 6], [0, 1, 5, 6], [], [0, 1, 5], [0, 1, 5, 7], [0, 1, 5, 7], [0, 1, 5, 7], [0, 1, 5, 7, 8], [0, 1, 5, 7], [0, 1, 5, 7, 8], [5]] (by kernel_rfl) Tryz.func194 rfl (by decide) (by decide +kernel) (rs := [.tmp 4]) rfl rfl (Nat.le_of_ble_eq_true rfl) ?_
  repeat (first | rw [ko] | rw [kr] | simp -dsimp -implicitDefEqProofs only [go_sem, sQ1, decide_true, sQ3, Nat.zero_add])
  have ownN : ∀ h2 : Heap, h.le h2 → Own (hn h .mk) (h2.push ⟨true, 1, []⟩) (.slice (some ⟨hn h2 .mk, 0, none⟩) 0 0) 1 0 [] := by
    intro h2 l2
    exact ⟨rfl, _, _, rfl, .inr ⟨hn h2 .mk, rfl, l2.n, by simp -dsimp -implicitDefEqProofs only [go_sem], by simp -dsimp -implicitDefEqProofs only [go_sem, Av]⟩⟩
  refine DZ (fun k e h' => h.le h' ∧ look e 0 .mk = .slice a n c ∧ look e 1 .mk = .slice a' n' c' ∧ ∃ (i : Int) (v : Value), look e 6 .mk = .int .i64 i ∧ look e 5 .mk = v ∧ Own (hn h .mk) h' v 1 0 [] ∧ 0 ≤ i ∧ (k : Int) + i = n' ∧ ∀ j : Nat, (j : Int) < i → inI (top.getD j 0) 0 ((lo.length : Int) - 1) = true) n' ?_ ?_
  · refine ⟨Heap.le_push _ _, ?_, ?_, 0, .slice (some ⟨hn h .mk, 0, none⟩) 0 0, ?_, ?_, ownN h (Heap.le_refl h), by omega, by omega, fun j hj => by omega⟩ <;> simp -dsimp -implicitDefEqProofs only [go_sem, sQ1]
  · rintro k e h' ⟨l2, e0, e1, i, v, e6, e5, ho, hi, hk, hpre⟩
    repeat (first | rw [ko] | rw [kr] | simp -dsimp -implicitDefEqProofs only [go_sem, sQ1, e0, e1, e5, e6])
    refine AN (fun h2 => ?_) (fun h2 => ?_)
    · obtain ⟨b1, off1, w1, z1, cs1, rfl, hb1, hlt1, hy1⟩ := (r'.mono l2).int (i := i) ⟨hi, h2⟩
      have hi2 : 0 ≤ i ∧ i < (n' : Int) := ⟨hi, h2⟩
      repeat (first | rw [ko] | rw [kr] | simp -dsimp -implicitDefEqProofs only [go_sem, sQ1, and_self, Nat.mul_one, hi2, hb1, hy1, hwn])
      refine AA Ab ?_
      rintro _ h' ⟨rfl, rfl⟩
      cases hin : inI (top.getD i.toNat 0) 0 ((lo.length : Int) - 1)
      · repeat (first | rw [ko] | rw [kr] | simp -dsimp -implicitDefEqProofs only [go_sem, decide_true, Bool.not_false, sQ3, Nat.zero_add])
        refine ⟨⟨0, ?_⟩, le_push l2⟩
        have hno : ¬ (top.all fun s => inI s 0 ((lo.length : Int) - 1)) = true := by
          intro hh
          have hlt : i.toNat < top.length := by omega
          have := List.all_eq_true.1 hh top[i.toNat] (List.getElem_mem hlt)
          rw [List.getD_eq_getElem?_getD, List.getElem?_eq_getElem hlt] at hin
          rw [show (some top[i.toNat]).getD 0 = top[i.toNat] from rfl] at hin
          rw [hin] at this; cases this
        rw [chanceI, if_neg hno]
        exact ownN _ l2
      · repeat (first | rw [ko] | rw [kr] | simp -dsimp -implicitDefEqProofs only [go_sem, sQ1, Bool.not_true])
        have hw : IntKind.i64.wrap (i + 1) = i + 1 := by rw [wrap_i64] <;> omega
        refine ⟨k - 1, by omega, l2, ?_, ?_, i + 1, v, ?_, ?_, ho, by omega, by omega, ?_⟩
        · simp -dsimp -implicitDefEqProofs only [go_sem, sQ1]
        · simp -dsimp -implicitDefEqProofs only [go_sem, sQ1]
        · simp -dsimp -implicitDefEqProofs only [go_sem, hw]
        · simp -dsimp -implicitDefEqProofs only [go_sem, sQ1]
        · intro j hj
          by_cases hji : j = i.toNat
          · subst hji; exact hin
          · exact hpre j (by omega)
    · repeat (first | rw [ko] | rw [kr] | simp -dsimp -implicitDefEqProofs only [go_sem, ↓reduceIte, sQ1])
      have hall : (top.all fun s => inI s 0 ((lo.length : Int) - 1)) = true := by
        rw [List.all_eq_true]
        intro x hx
        obtain ⟨j, hj, rfl⟩ := List.getElem_of_mem hx
        have := hpre j (by omega)
        rw [List.getD_eq_getElem?_getD, List.getElem?_eq_getElem hj] at this
        exact this
      have hch : chanceI lo top = top.map (BT lo (top.getD 0 0)) := by rw [chanceI, if_pos hall]
      have hin : ∀ i : Nat, i < top.length → 0 ≤ top.getD i 0 ∧ top.getD i 0 < (n : Int) := by
        intro i hi
        have := hpre i (by omega)
        simp only [inI, Bool.and_eq_true, decide_eq_true_eq] at this
        omega
      clear hpre hi hk e0 e1 e5 e6 h2
      refine DZ (fun k e h' => look e 0 .mk = .slice a n c ∧ look e 1 .mk = .slice a' n' c' ∧ h.le h' ∧ hn h .mk ≤ hn h' .mk ∧ ∃ (i : Int) (v : Value), look e 7 .mk = .int .i64 i ∧ look e 5 .mk = v ∧ 0 ≤ i ∧ (k : Int) + i = n' ∧ Own (hn h .mk) h' v 1 i.toNat (((top.map (BT lo (top.getD 0 0))).take i.toNat).map (.int .i64))) n' ?_ ?_
      · refine ⟨?_, ?_, l2, l2.n, 0, v, ?_, ?_, by omega, by omega, ?_⟩
        · simp -dsimp -implicitDefEqProofs only [go_sem, sQ1]
        · simp -dsimp -implicitDefEqProofs only [go_sem, sQ1]
        · simp -dsimp -implicitDefEqProofs only [go_sem]
        · simp -dsimp -implicitDefEqProofs only [go_sem]
        · exact ho
      · rintro k e h' ⟨e0, e1, l2, hN, i, v, e7, e5, hi, hk, ho⟩
        repeat (first | rw [ko] | rw [kr] | simp -dsimp -implicitDefEqProofs only [go_sem, sQ1, e0, e1, e7, e5])
        refine AN (fun h2 => ?_) (fun h2 => ?_)
        · obtain ⟨b1, off1, w1, z1, cs1, rfl, hb1, hlt1, hy1⟩ := (r'.mono l2).int (i := i) ⟨hi, h2⟩
          have hi2 : 0 ≤ i ∧ i < (n' : Int) := ⟨hi, h2⟩
          have hz2 : (0 : Int) ≤ 0 ∧ (0 : Int) < (n' : Int) := ⟨by omega, by omega⟩
          have hv2 : 0 ≤ top.getD i.toNat 0 ∧ top.getD i.toNat 0 < (n : Int) := hin _ (by omega)
          have hv3 : 0 ≤ top.getD 0 0 ∧ top.getD 0 0 < (n : Int) := hin _ (by omega)
          obtain ⟨b2, off2, w2, z2, cs2, e2, hb2, hlt2, hy2⟩ := (r'.mono l2).int (i := 0) hz2
          cases e2
          rw [hb1] at hb2
          cases hb2
          simp only [Int.toNat_zero, Nat.add_zero] at hy2
          obtain ⟨b3, off3, w3, z3, cs3, rfl, hb3, hlt3, hy3⟩ := (r.mono l2).int hv2
          obtain ⟨b4, off4, w4, z4, cs4, e4, hb4, hlt4, hy4⟩ := (r.mono l2).int hv3
          cases e4
          rw [hb3] at hb4
          cases hb4
          repeat (first | rw [ko] | rw [kr] | simp -dsimp -implicitDefEqProofs only [go_sem, sQ1])
          refine AO [(0, []), (1, []), (2, []), (3, []), (4, []), (5, []), (6, []), (7, []), (8, []), (9, []), (10, []), (11, []), (12, []), (13, []), (14, []), (15, [])] (by kernel_rfl) ?_
          repeat (first | rw [ko] | rw [kr] | simp -dsimp -implicitDefEqProofs only [go_sem, sQ1, and_self, Nat.add_zero, Nat.mul_one, hi2, hz2, hv2, hv3, hb1, hy1, hy2, hb3, hy3, hy4, Int.toNat_zero])
          refine AA Ki ?_
          rintro _ h' ⟨rfl, rfl⟩
          repeat (first | rw [ko] | rw [kr] | simp -dsimp -implicitDefEqProofs only [go_sem, sQ1])
          have hmx : ∀ y : Int, y < -1400 → mxI (-1400) y = -1400 := fun y hy => by unfold mxI; rw [if_neg (by omega)]
          have hmx2 : ∀ y : Int, ¬ y < -1400 → mxI (-1400) y = y := fun y hy => by unfold mxI; split <;> omega
          have hw : IntKind.i64.wrap (i + 1) = i + 1 := by rw [wrap_i64] <;> omega
          have hin2 : i.toNat < (top.map (BT lo (top.getD 0 0))).length := by simp; omega
          have he1 : (top.map (BT lo (top.getD 0 0)))[i.toNat] = G1 (mxI (-1400) (DG (IntKind.i64.wrap (lo.getD (top.getD i.toNat 0).toNat 0 - lo.getD (top.getD 0 0).toNat 0)) 64)) := by
            have hg1 : top.getD i.toNat 0 = top[i.toNat]'(by omega) := by
              rw [List.getD_eq_getElem?_getD, List.getElem?_eq_getElem (show i.toNat < top.length by omega)]; rfl
            simp only [List.getElem_map, BT, hg1]
          have done : ∀ (v' : Value) (h7 : Heap), Own (hn h .mk) h7 v' 1 (i.toNat + 1) (((top.map (BT lo (top.getD 0 0))).take i.toNat).map (.int .i64) ++ [.int .i64 (G1 (mxI (-1400) (DG (IntKind.i64.wrap (lo.getD (top.getD i.toNat 0).toNat 0 - lo.getD (top.getD 0 0).toNat 0)) 64)))]) →
              Own (hn h .mk) h7 v' 1 (i + 1).toNat (((top.map (BT lo (top.getD 0 0))).take (i + 1).toNat).map (.int .i64)) := by
            intro v' h7 ho7
            rw [show (i + 1).toNat = i.toNat + 1 by omega, List.take_succ_eq_append_getElem hin2, List.map_append, List.map_cons, List.map_nil, he1]
            exact ho7
          refine AN (fun h3 => ?_) (fun h3 => ?_)
          · rw [hmx _ h3] at done
            repeat (first | rw [ko] | rw [kr] | simp -dsimp -implicitDefEqProofs only [go_sem, sQ1])
            refine AA Lp ?_
            rintro _ h' ⟨rfl, rfl⟩
            repeat (first | rw [ko] | rw [kr] | simp -dsimp -implicitDefEqProofs only [go_sem, decide_true, sQ3, Nat.zero_add, Nat.mul_one, Av])
            refine append_push (N := hn h .mk) (z := 0) (n := i.toNat) ty_el25 ty_zr3 rfl ty_cl25 ho hN (by have : most = 1099511627776 := rfl; omega) rfl rfl ?_
            intro v' h7 ho7 hn7 hle7 hk7
            repeat (first | rw [ko] | rw [kr] | simp -dsimp -implicitDefEqProofs only [go_sem, sQ1])
            refine ⟨k - 1, by omega, ?_, ?_, hle7 h (Nat.le_refl _) l2, by omega, i + 1, v', ?_, ?_, by omega, by omega, done v' h7 ho7⟩
            · simp -dsimp -implicitDefEqProofs only [go_sem, sQ1]
            · simp -dsimp -implicitDefEqProofs only [go_sem, sQ1]
            · simp -dsimp -implicitDefEqProofs only [go_sem, hw]
            · simp -dsimp -implicitDefEqProofs only [go_sem, sQ1]
          · rw [hmx2 _ h3] at done
            repeat (first | rw [ko] | rw [kr] | simp -dsimp -implicitDefEqProofs only [go_sem, sQ1])
            refine AA Lp ?_
            rintro _ h' ⟨rfl, rfl⟩
            repeat (first | rw [ko] | rw [kr] | simp -dsimp -implicitDefEqProofs only [go_sem, decide_true, sQ3, Nat.zero_add, Nat.mul_one, Av])
            refine append_push (N := hn h .mk) (z := 0) (n := i.toNat) ty_el25 ty_zr3 rfl ty_cl25 ho hN (by have : most = 1099511627776 := rfl; omega) rfl rfl ?_
            intro v' h7 ho7 hn7 hle7 hk7
            repeat (first | rw [ko] | rw [kr] | simp -dsimp -implicitDefEqProofs only [go_sem, sQ1])
            refine ⟨k - 1, by omega, ?_, ?_, hle7 h (Nat.le_refl _) l2, by omega, i + 1, v', ?_, ?_, by omega, by omega, done v' h7 ho7⟩
            · simp -dsimp -implicitDefEqProofs only [go_sem, sQ1]
            · simp -dsimp -implicitDefEqProofs only [go_sem, sQ1]
            · simp -dsimp -implicitDefEqProofs only [go_sem, hw]
            · simp -dsimp -implicitDefEqProofs only [go_sem, sQ1]
        · repeat (first | rw [ko] | rw [kr] | simp -dsimp -implicitDefEqProofs only [go_sem, ↓reduceIte, sQ1])
          refine ⟨⟨i.toNat, ?_⟩, l2⟩
          have hin : i.toNat = (top.map (BT lo (top.getD 0 0))).length := by simp; omega
          rw [show (top.map (BT lo (top.getD 0 0))).take i.toNat = top.map (BT lo (top.getD 0 0)) from List.take_of_length_le (by omega)] at ho
          rw [hch]
          exact ho
end Go.Ai
end
section
set_option maxRecDepth 20000
namespace Go.Bi
open Go.Proofs
open Go.Ai (wrap_i64 wrap_u64 wrap_u8 Heap WC R RG RS JW)
variable {W0 : World} {P : Program} {g : H2}
theorem WC.conv {f : FuncId} {args : List Value} {h : Heap} {Q Q' : Value → Heap → Prop} (c : WC P W0 f args h Q) (hq : ∀ v h', Q v h' → ∃ v2, (∀ ι x, R ι v x → R ι v2 x) ∧ Q' v2 h') : WC P W0 f args h Q' :=
 ⟨c.1, fun ι w args' s ha => (c.2 ι w args' s ha).mono fun e w' ⟨v, v', h', ι', h1, h2, h3, h4, h5⟩ => by
  obtain ⟨v2, h6, h7⟩ := hq _ _ h5
  exact ⟨v2, v', h', ι', h1, h2, h3, h6 _ _ h4, h7⟩⟩
theorem fV {ι : Go.Ai.Ren} {a : Addr} {n c c' : Nat} {x : Value} (h : R ι (.slice (some a) n c) x) : R ι (.slice (some a) n c') x := h
theorem gF {ι : Go.Ai.Ren} {n c : Nat} {x : Value} (h : R ι (.slice none n c) x) : R ι (.slice none 0 0) x := ⟨rfl, rfl, h.2.2⟩
theorem PI.ofA {f : FuncId} {vs : List Value} {xs : List X} {zs : List Int} (hx : xs.map er = vs)
  (c : ∀ h, S g h → (∀ x ∈ xs, Ok h g x) → WC P W0 f vs h (fun v h' => (∃ m, Go.Ai.Own (Go.Ai.hn h .mk) h' v 1 m (zs.map (.int .i64))) ∧ h.le h')) : PI P W0 f xs g zs := by
 intro h s o
 rw [hx]
 refine WC.conv (c h s o) ?_
 rintro v h' ⟨⟨m, hlen, a, cc, rfl, hcase⟩, le⟩
 simp only [List.length_map, Nat.mul_one] at hlen
 have hle1 := le.1
 have hle2 := le.2
 have hn1 : g.n = h.n := s.n
 have hnn : hn g .mk = h.n := s.n
 rcases hcase with ⟨rfl, rfl⟩ | ⟨b, rfl, hb1, hb2, hb3⟩
 ·have hz : zs = [] := List.eq_nil_of_length_eq_zero hlen
  subst hz
  have hx2 : Ext g h (g.up h'.n) h' := ⟨hle1, fun b hb _ => hle2 b hb, fun _ _ h => h⟩
  refine ⟨_, fun ι x hr => gF hr, .raw (.slice none 0 0), g.up h'.n, rfl, ⟨rfl, fun b k hk => ?_⟩, hx2, .raw, AK (H2.le.refl _) (by omega), .nil⟩
  obtain ⟨q1, q2, q3⟩ := s.row b k hk
  exact ⟨Nat.lt_of_lt_of_le q1 hle1, by rw [hle2 b q1]; exact q2, fun y hy => (q3 y hy).mono hx2⟩
 ·have hb1' : h.n ≤ b := hb1
  have hb2' : b < h'.n := hb2
  have hb3' : h'.get b = some ⟨true, 1, zs.map (.int .i64)⟩ := hb3
  let g2 : H2 := (g.up h'.n).set b ⟨1, zs.map cI⟩
  have hx2 : Ext g h g2 h' := ⟨hle1, fun c hc _ => hle2 c hc, fun c hc hg => by
   have : ¬ c = b := by omega
   simp [g2, H2.set, H2.up, this, hg]⟩
  refine ⟨_, fun ι x hr => fV (c' := zs.length) hr, .raw (.slice (some ⟨b, 0, none⟩) m zs.length), g2, rfl, ⟨rfl, fun c k hk => ?_⟩, hx2, .raw, ⟨?_, fun c hc => ?_⟩, ?_, .inr ⟨b, ?_, ?_, hb2', ?_⟩⟩
  ·simp only [g2, H2.set] at hk
   split at hk
   ·rename_i e; subst e; cases hk
    refine ⟨hb2', ?_, fun x hx => by obtain ⟨v, _, rfl⟩ := List.mem_map.1 hx; exact .raw⟩
    rw [hb3']; simp [cI, er, Function.comp_def]
   ·obtain ⟨q1, q2, q3⟩ := s.row c k hk
    exact ⟨Nat.lt_of_lt_of_le q1 hle1, by rw [hle2 c q1]; exact q2, fun y hy => (q3 y hy).mono hx2⟩
  ·show hn g .mk ≤ h'.n; omega
  ·show g2.get c = g.get c
   have : ¬ c = b := by omega
   simp [g2, H2.set, H2.up, this]
  ·simp
  ·rw [hlen]
  ·omega
  ·show g2.get b = _
   simp [g2, H2.set]
theorem Ha {h : Heap} {f : AQ} {zs : List Int} (o : Ok h g (.sl f 1 (ints zs))) (h0 : 0 < zs.length) : ∃ a c, f [] = .slice a zs.length c ∧ JW h a zs.length (zs.map (.int .i64)) := by
 cases o with
 | sl r =>
  generalize he : ints zs = es at r
  cases r with
  | o h1 => have := congrArg List.length he; rw [Ff, List.length_nil] at this; omega
  | l a c h1 h2 h3 h4 =>
   subst he
   rw [Ff] at h1
   refine ⟨a, c, h1, by simp, fun i hi => ?_⟩
   rcases h3 with ⟨rfl, h3⟩ | ⟨b, off, w, k, cs, rfl, h5, h6, h7, _, _, h8⟩
   ·have : zs.length = 0 := by rw [← Ff, h3]; rfl
    omega
   ·refine ⟨b, off, w, k, cs, rfl, h7, h5, ?_⟩
    have e := h8 i 0 (by rw [Ff]; exact hi) (by omega)
    rw [Nat.mul_one, Nat.add_zero] at e
    rw [e, List.getElem?_map, List.getElem?_eq_getElem hi]
    have r := h4 i 0 (.v (.int .i64 zs[i])) (by simp [ints, List.getElem?_eq_getElem hi, eI])
    cases r with
    | v hv => rw [Option.map_some, ← hv]; rfl
theorem implChanceOf_ok {f f' : AQ} {zs top : List Int} (hz : 0 < zs.length) (ht : 0 < top.length) (h1 : zs.length ≤ 1048576) (h2 : top.length ≤ 1048576) : PI Tryz.prog W0 148 [.sl f 1 (ints zs), .sl f' 1 (ints top)] g (Go.Ai.chanceI zs top) := by
 refine A7.asm fun h s o => ?_
 obtain ⟨a, c, e, r⟩ := Ha (o (.sl f 1 (ints zs)) (by simp)) hz
 obtain ⟨a', c', e', r'⟩ := Ha (o (.sl f' 1 (ints top)) (by simp)) ht
 refine PI.ofA (vs := [.slice a zs.length c, .slice a' top.length c']) (by simp [er, e, e']) fun h s o => ?_
 obtain ⟨a1, c1, e1, r1⟩ := Ha (o (.sl f 1 (ints zs)) (by simp)) hz
 obtain ⟨a2, c2, e2, r2⟩ := Ha (o (.sl f' 1 (ints top)) (by simp)) ht
 rw [e] at e1; rw [e'] at e2
 cases e1; cases e2
 exact Go.Ai.implChanceOf_ok r1 r2 h1 h2
theorem specChanceOf_ok {f f' : AQ} {zs top : List Int} (hz : 0 < zs.length) (ht : 0 < top.length) (h1 : zs.length ≤ 1048576) (h2 : top.length ≤ 1048576) : PI Tryz.prog W0 194 [.sl f 1 (ints zs), .sl f' 1 (ints top)] g (Go.Ai.chanceI zs top) := by
 refine A7.asm fun h s o => ?_
 obtain ⟨a, c, e, r⟩ := Ha (o (.sl f 1 (ints zs)) (by simp)) hz
 obtain ⟨a', c', e', r'⟩ := Ha (o (.sl f' 1 (ints top)) (by simp)) ht
 refine PI.ofA (vs := [.slice a zs.length c, .slice a' top.length c']) (by simp [er, e, e']) fun h s o => ?_
 obtain ⟨a1, c1, e1, r1⟩ := Ha (o (.sl f 1 (ints zs)) (by simp)) hz
 obtain ⟨a2, c2, e2, r2⟩ := Ha (o (.sl f' 1 (ints top)) (by simp)) ht
 rw [e] at e1; rw [e'] at e2
 cases e1; cases e2
 exact Go.Ai.specChanceOf_ok r1 r2 h1 h2
end Go.Bi
end
section
set_option maxRecDepth 20000
namespace Go.Bi
open Go.Proofs
open Go.Ai (wrap_i64 wrap_u64 wrap_u8 Heap chanceI BT G1 DG mxI shrI)
variable {W0 : World} {P : Program}
def Le (z k c : Int) : Int := IntKind.u64.wrap (Go.bits .xor .u64 z (shrI .u64 z k) * c)
def JO (z : Int) : Int := Go.bits .xor .u64 (Le (Le z 30 13787848793156543929) 27 10723151780598845931) (shrI .u64 (Le (Le z 30 13787848793156543929) 27 10723151780598845931) 31)
def CX (s : Int) : Int := IntKind.u64.wrap (s + 11400714819323198485)
theorem K9 (x : Int) : 0 ≤ IntKind.u64.wrap x ∧ IntKind.u64.wrap x < 18446744073709551616 := by rw [wrap_u64]; omega
theorem PS {z : Int} {k : Nat} (hz : 0 ≤ z ∧ z < 18446744073709551616) (hk : k ≤ 64) : IntKind.u64.wrap (z.tdiv (2 ^ k)) = shrI .u64 z (k : Int) := by
 obtain ⟨n, rfl⟩ := Int.eq_ofNat_of_zero_le hz.1
 have hm : min ((k : Int).toNat) IntKind.u64.bits = k := by simp only [IntKind.bits, Int.toNat_natCast]; omega
 unfold shrI
 have hp : (0 : Int) ≤ 2 ^ k := by exact_mod_cast Nat.zero_le _
 have hp2 : (0 : Int) < 2 ^ k := by exact_mod_cast Nat.pow_pos (by decide)
 rw [hm, Int.fdiv_eq_ediv_of_nonneg _ hp, Int.tdiv_eq_ediv_of_nonneg (by omega), wrap_u64]
 have h1 := Int.ediv_nonneg (show (0 : Int) ≤ (n : Int) by omega) hp
 have h2 := Int.ediv_le_self (2 ^ k) (show (0 : Int) ≤ (n : Int) by omega)
 omega
theorem J8 {s : Int} {h : H2} : A7 Tryz.prog W0 149 [.raw (.int .u64 s)] h (fun v h' => v = .tp [.raw (.int .u64 (CX s)), .raw (.int .u64 (JO (CX s)))] ∧ h' = h) := by
 refine AH [[0], [0], [0], [0, 4], [0, 4], [0, 4]] Tryz.func149 rfl (rs := [.tmp 2, .tmp 3]) rfl rfl ?_
 intro wf
 refine zr ?_
 exact ⟨rfl, rfl⟩
theorem Jq {s : Int} {h : H2} : A7 Tryz.prog W0 193 [.raw (.int .u64 s)] h (fun v h' => v = .tp [.raw (.int .u64 (CX s)), .raw (.int .u64 (JO (CX s)))] ∧ h' = h) := by
 refine AH [[0], [0], [0], [0, 4], [0, 4], [0, 4]] Tryz.func193 rfl (rs := [.tmp 2, .tmp 3]) rfl rfl ?_
 intro wf
 refine zr ?_
 have q1 : IntKind.u64.wrap ((CX s).tdiv 1073741824) = shrI .u64 (CX s) 30 := PS (k := 30) (K9 _) (by omega)
 have q2 : IntKind.u64.wrap ((Le (CX s) 30 13787848793156543929).tdiv 134217728) = shrI .u64 (Le (CX s) 30 13787848793156543929) 27 := PS (k := 27) (K9 _) (by omega)
 have q3 : IntKind.u64.wrap ((Le (Le (CX s) 30 13787848793156543929) 27 10723151780598845931).tdiv 2147483648) = shrI .u64 (Le (Le (CX s) 30 13787848793156543929) 27 10723151780598845931) 31 := PS (k := 31) (K9 _) (by omega)
 rw [JO]
 rw [← q3]
 unfold Le at q2 q3 ⊢
 rw [← q2]
 rw [← q1]
 exact ⟨rfl, rfl⟩
theorem Z7 {x : Int} : 0 ≤ G1 x ∧ G1 x ≤ 256 := by
 unfold G1
 split
 ·omega
 ·split
  ·omega
  ·have hr := Int.emod_nonneg (-x) (show (177 : Int) ≠ 0 by decide)
   have hr2 := Int.emod_lt_of_pos (-x) (show (0 : Int) < 177 by decide)
   generalize (-x) % 177 = r at *
   have hm : 0 ≤ r * r := Int.mul_nonneg hr hr
   have hm2 : r * r ≤ 176 * r := Int.mul_le_mul_of_nonneg_right (by omega) hr
   have hp : (0 : Int) < 2 ^ ((-x) / 177).toNat := by exact_mod_cast Nat.pow_pos (by decide)
   have hn : (0 : Int) ≤ 256 - r + r * r / 512 := by omega
   have hu : 256 - r + r * r / 512 ≤ 256 := by omega
   exact ⟨Int.ediv_nonneg hn (Int.le_of_lt hp), Int.le_trans (Int.ediv_le_self _ hn) hu⟩
def Bw : List Int → Int
 | [] => 0
 | x :: l => x + Bw l
theorem Iz {l : List Int} (h : ∀ x ∈ l, 0 ≤ x ∧ x ≤ 256) : 0 ≤ Bw l ∧ Bw l ≤ 256 * l.length := by
 induction l with
 | nil => simp [Bw]
 | cons x l ih =>
  have h1 := h x (by simp)
  have h2 := ih fun y hy => h y (by simp [hy])
  simp only [Bw, List.length_cons]
  omega
def Fx : List Int → Int → Nat
 | [], _ => 0
 | c :: cs, d => if d < c then 0 else Fx cs (d - c) + 1
theorem Wx {l : List Int} {d : Int} (h : d < Bw l) (hd : 0 ≤ d) : Fx l d < l.length := by
 induction l generalizing d with
 | nil => simp only [Bw] at h; omega
 | cons c cs ih =>
  simp only [Fx, List.length_cons]
  split
  ·omega
  ·have := ih (d := d - c) (by simp only [Bw] at h; omega) (by omega)
   omega
theorem Ip {zs top : List Int} {x : Int} (h : x ∈ chanceI zs top) : 0 ≤ x ∧ x ≤ 256 := by
 unfold chanceI at h
 split at h
 ·obtain ⟨i, _, rfl⟩ := List.mem_map.1 h
  unfold BT; exact Z7
 ·cases h
theorem dd : DG 0 64 = 0 := by decide
theorem hZ : G1 0 = 256 := by decide
theorem GY {zs top : List Int} (h : ∀ x ∈ top, 0 ≤ x ∧ x < zs.length) : (chanceI zs top).length = top.length ∧ ∀ (h0 : 0 < top.length), Ao (chanceI zs top) 0 = 256 := by
 have h1 : (top.all fun s => Go.Ai.inI s 0 ((zs.length : Int) - 1)) = true := by
  rw [List.all_eq_true]
  intro x hx
  have := h x hx
  simp only [Go.Ai.inI, Bool.and_eq_true, decide_eq_true_eq]; omega
 unfold chanceI
 rw [if_pos h1]
 refine ⟨by simp, fun h0 => ?_⟩
 cases top with
 | nil => simp at h0
 | cons t ts =>
  show (BT zs t t) = 256
  unfold BT
  rw [Int.sub_self, show IntKind.i64.wrap 0 = 0 by decide, dd, show mxI (-1400) 0 = 0 by decide, hZ]
theorem P8 {K : Int → Int} {n : Nat} {x : Int} : ∀ {m : Nat}, m ≤ n → x ∈ EJ K n m → 0 ≤ x ∧ x < n
 | 0, _, h => by cases h
 | m + 1, hk, h => by
  rw [EJ] at h
  rcases List.mem_append.1 h with h | h
  ·exact P8 (by omega) h
  ·simp only [List.mem_singleton] at h
   rcases LH (K := K) (out := EJ K n m) (n := n) (d := n) (Nat.le_refl _) with ⟨h1, h2⟩ | ⟨h1, h2, _⟩
   ·exfalso
    have hsub : upto n ⊆ EJ K n m := fun y hy => by
     obtain ⟨i, hi, rfl⟩ := List.mem_map.1 hy
     have := List.mem_range.1 hi
     exact h2 _ (by show _ ≤ ((i : Nat) : Int); omega) (by show ((i : Nat) : Int) < _; omega)
    have hnd : (upto n).Nodup := by
     unfold upto
     exact List.Pairwise.map _ (fun a b h e => h (Int.ofNat.inj e)) List.nodup_range
    have := List.Nodup.length_le_of_subset hnd hsub
    rw [DX, GB] at this
    omega
   ·rw [h]; omega
theorem MD {zs : List Int} {k x : Int} (h : x ∈ CP zs k) : 0 ≤ x ∧ x < zs.length := by
 unfold CP at h
 split at h
 ·exact P8 (Nat.min_le_right _ _) h
 ·cases h
theorem J1 {zs : List Int} {k : Int} (hk : inI k 1 8 = true) (h1 : 1 ≤ zs.length) (h2 : zs.length ≤ 400) : 1 ≤ (CP zs k).length ∧ (CP zs k).length ≤ 8 := by
 unfold CP
 rw [if_pos ⟨hk, h2⟩, GB]
 have := Pq hk
 omega
def FX (s : Int) (zs top : List Int) : Int := IntKind.i64.wrap ((JO (CX s)).tmod (IntKind.u64.wrap (Bw (chanceI zs top))))
def Ax (c : Ac) (s : Int) (zs : List Int) : Int × Int × Bool :=
 if DV c = true ∧ inI zs.length 1 400 = true ∧ allI zs (-1000000) 1000000 = true then
  (if c.top = 1 then (Ao (CP zs c.top) 0, s, true) else (Ao (CP zs c.top) (Fx (chanceI zs (CP zs c.top)) (FX s zs (CP zs c.top))), CX s, true))
 else (0, 0, false)
theorem aI (z : Int) : 0 ≤ JO z ∧ JO z < 18446744073709551616 := K9 _
theorem KI {s : Int} {zs top : List Int} (h : 0 < Bw (chanceI zs top) ∧ Bw (chanceI zs top) ≤ 1048576) : FX s zs top = (JO (CX s)).tmod (Bw (chanceI zs top)) ∧ 0 ≤ FX s zs top ∧ FX s zs top < Bw (chanceI zs top) := by
 have h1 := aI (CX s)
 have hw : IntKind.u64.wrap (Bw (chanceI zs top)) = Bw (chanceI zs top) := by rw [wrap_u64]; omega
 have h2 := Int.tmod_nonneg (Bw (chanceI zs top)) h1.1
 have h3 := Int.tmod_lt_of_pos (JO (CX s)) h.1
 have hw2 : IntKind.i64.wrap ((JO (CX s)).tmod (Bw (chanceI zs top))) = (JO (CX s)).tmod (Bw (chanceI zs top)) := by rw [wrap_i64] <;> omega
 rw [FX, hw, hw2]
 exact ⟨rfl, h2, h3⟩
theorem OC {zs top : List Int} (h : ∀ x ∈ top, 0 ≤ x ∧ x < zs.length) (h0 : 1 ≤ top.length) (h8 : top.length ≤ 8) : 0 < Bw (chanceI zs top) ∧ Bw (chanceI zs top) ≤ 1048576 := by
 obtain ⟨h1, h2⟩ := GY h
 have h3 := h2 (by omega)
 have h4 : ∀ x ∈ chanceI zs top, 0 ≤ x ∧ x ≤ 256 := fun x hx => Ip hx
 generalize chanceI zs top = l at *
 have h6 := Iz h4
 cases l with
 | nil => simp at h1; omega
 | cons x l =>
  have h5 := Iz (l := l) fun y hy => h4 y (by simp [hy])
  have h7 : x = 256 := h3
  simp only [Bw] at *
  omega
def U0 (r : Int × Int × Bool) : X := .tp [.raw (.int .i64 r.1), .raw (.int .u64 r.2.1), .raw (.bool r.2.2)]
end Go.Bi
end
section
set_option maxRecDepth 20000
namespace Go.Bi
open Go.Proofs
open Go.Ai (wrap_i64 wrap_u64 wrap_u8 Heap chanceI)
variable {W0 : World} {P : Program}
set_option maxHeartbeats 4000000
theorem Mf {l : List Int} {k : Nat} (h : k < l.length) : l.drop k = Ao l k :: l.drop (k + 1) := by
 rw [List.drop_eq_getElem_cons h, Ao, List.getD_eq_getElem?_getD, List.getElem?_eq_getElem h]; rfl
theorem Kz {l : List Int} {k : Nat} (h : k < l.length) : Ao l k ∈ l := by
 rw [Ao, List.getD_eq_getElem?_getD, List.getElem?_eq_getElem h]; exact List.getElem_mem h
theorem Hy {l : List Int} {k : Nat} (h : k < l.length) : Bw (l.drop k) = Ao l k + Bw (l.drop (k + 1)) := by rw [Mf h]; rfl
theorem Mz {F : Nat → AQ} {f : AQ} {c : Ac} {s : Int} {zs : List Int} {g : H2} (hn0 : c.stops.length ≤ 9223372036854775807) (hs : zs.length ≤ 1048576) :
  PW Tryz.prog W0 91 [.st (BR F c), .raw (.int .u64 s), .sl f 1 (ints zs)] g (fun r => r = U0 (Ax c s zs)) := by
 refine PW.plain (A7.asm fun h0 s0 ok0 => ?_)
 have hall : Bu (fun _ => True) (.sl f 1 (ints zs)) := (ok0 (.sl f 1 (ints zs)) (by simp)).all
 refine AH [[0, 1, 2], [1, 2, 3], [], [1, 2, 3], [1, 2, 3, 9], [1, 9], [1, 2, 9], [1, 9, 10], [1, 9, 10, 11], [1, 9, 10, 11, 46, 47, 48], [1, 9, 10, 11, 46, 47, 48], [1, 9, 10, 11, 13, 46, 47, 48], [1, 9, 10, 11, 46, 47, 48], [1, 9, 10, 11], [9, 10, 11, 14, 15], [9, 10, 14, 16], [9, 10, 14, 16, 17], [9, 10, 14, 16, 17], [9, 10, 14, 16, 17], [9, 14, 17]] Tryz.func91 rfl (rs := [.tmp 6, .tmp 7, .tmp 8]) rfl rfl ?_
 intro wf
 refine zr ?_
 refine AD (Gp hn0) ?_
 rintro _ n1 hn1 rfl
 have wrong : ¬ (DV c = true ∧ inI zs.length 1 400 = true ∧ allI zs (-1000000) 1000000 = true) → U0 (Ax c s zs) = .tp [.raw (.int .i64 0), .raw (.int .u64 0), .raw (.bool false)] := fun h => by rw [Ax, if_neg h]; rfl
 cases hc : DV c
 ·refine zr ?_
  exact ⟨AZ, .inr ⟨[_, _, _], rfl⟩, (wrong (by rw [hc]; simp)).symm⟩
 refine zr ?_
 refine AA BQ ?_
 rintro _ h1 ⟨rfl, rfl⟩
 cases hl : inI zs.length 1 400
 ·refine zr ?_
  exact ⟨AZ, .inr ⟨[_, _, _], rfl⟩, (wrong (by rw [hl]; simp)).symm⟩
 refine zr ?_
 refine AD (BN (by omega)) ?_
 rintro _ n2 hn2 rfl
 cases ha : allI zs (-1000000) 1000000
 ·refine zr ?_
  exact ⟨AZ, .inr ⟨[_, _, _], rfl⟩, (wrong (by rw [ha]; simp)).symm⟩
 refine zr ?_
 refine AA PC ?_
 rintro v3 g3 ⟨l3, o3⟩
 have hcfg : hg g3 (hn g .mk) .mk = some ⟨4, BR F c⟩ := (l3.2 (hn g .mk) (by rw [AB] at hn1; simp only [AF] at *; omega)).trans AL
 have L3 : g.le g3 := H2.le.trans AZ l3
 have htop : inI c.top 1 8 = true := by unfold DV at hc; simp only [Bool.and_eq_true] at hc; exact hc.1
 have hzs := Pq hl
 have tl := J1 (zs := zs) htop (by omega) (by omega)
 obtain ⟨b, rfl, hb1, hb2, hb3⟩ := o3.blk (by intro e; rw [e] at tl; simp at tl)
 have right : Ax c s zs = (if c.top = 1 then (Ao (CP zs c.top) 0, s, true) else (Ao (CP zs c.top) (Fx (chanceI zs (CP zs c.top)) (FX s zs (CP zs c.top))), CX s, true)) := by rw [Ax, if_pos ⟨hc, hl, ha⟩]
 generalize ht : CP zs c.top = top at *
 refine A1 hcfg ?_
 refine AN (fun h4 => ?_) (fun h4 => ?_)
 ·have i0 : (0 : Int) ≤ 0 ∧ (0 : Int) < (top.length : Int) := by omega
  have e0 := Cx (l := top) (i := 0) (by omega)
  repeat (first | rw [ko] | rw [kr] | simp -dsimp -implicitDefEqProofs only [go_sem, sQ1, i0, hb3, e0, Int.toNat_zero])
  rw [right, if_pos h4]
  exact ⟨L3, .inr ⟨[_, _, _], rfl⟩, rfl⟩
 ·rw [if_neg h4] at right
  refine zr ?_
  obtain ⟨F2, hF2⟩ := o3.lent
  refine AA (PI.lend (.cons (Fz.sl hall) (.cons hF2 .nil)) (implChanceOf_ok (by omega) (by omega) hs (by omega))) ?_
  rintro v4 g4 ⟨l4, o4⟩
  have hmem : ∀ x ∈ top, 0 ≤ x ∧ x < zs.length := fun x hx => MD (k := c.top) (by rw [ht]; exact hx)
  obtain ⟨cl, c0⟩ := GY hmem
  have sr := OC hmem tl.1 tl.2
  have dr := KI (s := s) sr
  have cr : ∀ x ∈ chanceI zs top, 0 ≤ x ∧ x ≤ 256 := fun x hx => Ip hx
  have L4 : g.le g4 := L3.trans l4
  have hb4 := (l4.2 b hb2).trans hb3
  obtain ⟨b', rfl, hb5, hb6, hb7⟩ := o4.blk (by intro e; rw [e] at cl; simp at cl; omega)
  generalize hch : chanceI zs top = chs at *
  refine zr ?_
  refine AJ [1, 9, 10, 46, 47] (fun m e h' => ∃ (i : Nat) (t : Int), h' = g4 ∧ look e 48 .mk = .raw (.int .i64 (i : Nat)) ∧ look e 11 .mk = .raw (.int .i64 t) ∧ m + i = chs.length ∧ t + Bw (chs.drop i) = Bw chs ∧ 0 ≤ t ∧ t ≤ 256 * i) chs.length ?_ ?_
  ·exact ⟨0, 0, rfl, AL, AL, by omega, by simp, by omega, by omega⟩
  ·rintro m e h' hks ⟨i, t, rfl, e48, e11, hm, hsum, ht1, ht2⟩
   simp -dsimp -implicitDefEqProofs only [go_sem, sQ1] at hks
   refine DH hks e48 e11 ?_
   refine AN (fun h5 => ?_) (fun h5 => ?_)
   ·have h6 : i < chs.length := by omega
    have i0 : (0 : Int) ≤ (i : Int) ∧ (i : Int) < (chs.length : Int) := by omega
    have e0 := Cx h6
    have cx := cr _ (Kz h6)
    have w1 : IntKind.i64.wrap (t + Ao chs i) = t + Ao chs i := by rw [wrap_i64] <;> omega
    repeat (first | rw [ko] | rw [kr] | simp -dsimp -implicitDefEqProofs only [go_sem, sQ1, i0, hb7, e0, w1, AU h6 (by omega)])
    refine AI (m - 1) (by omega) AL ⟨i + 1, t + Ao chs i, rfl, AL, AL, by omega, ?_, by omega, by omega⟩
    rw [Hy h6] at hsum; omega
   ·refine zr ?_
    have hi : i = chs.length := by omega
    have ht3 : t = Bw chs := by
     rw [hi, List.drop_length] at hsum
     simpa [Bw] using hsum
    subst ht3
    refine AA J8 ?_
    rintro _ h5 ⟨rfl, rfl⟩
    have w2 : IntKind.u64.wrap (Bw chs) = Bw chs := by rw [wrap_u64]; omega
    have w3 : (Bw chs == 0) = false := Cw
    have w4 : IntKind.i64.wrap ((JO (CX s)).tmod (Bw chs)) = (JO (CX s)).tmod (Bw chs) := by rw [wrap_i64] <;> omega
    rw [← dr.1] at w4
    repeat (first | rw [ko] | rw [kr] | simp -dsimp -implicitDefEqProofs only [go_sem, sQ1, w2, w3, w4, ← dr.1])
    obtain ⟨_, d0, d1⟩ := dr
    generalize FX s zs top = d at *
    refine AJ [9, 10, 14] (fun m e h' => ∃ (k : Nat) (t : Int), h' = h5 ∧ look e 17 .mk = .raw (.int .i64 (k : Nat)) ∧ look e 16 .mk = .raw (.int .i64 t) ∧ m + k = chs.length ∧ Fx chs d = k + Fx (chs.drop k) t ∧ 0 ≤ t ∧ t < Bw (chs.drop k)) chs.length ?_ ?_
    ·exact ⟨0, d, rfl, AL, AL, by omega, by simp, d0, by simpa using d1⟩
    ·rintro m2 e2 h' hks2 ⟨k, t, rfl, e17, e16, hm2, hp, ht1, ht2⟩
     simp -dsimp -implicitDefEqProofs only [go_sem, sQ1] at hks2
     have hk : k < chs.length := by
      refine Decidable.byContradiction fun hk => ?_
      rw [List.drop_eq_nil_of_le (by omega)] at ht2
      simp only [Bw] at ht2; omega
     rw [Hy hk] at ht2
     rw [Mf hk, Fx] at hp
     have i0 : (0 : Int) ≤ (k : Int) ∧ (k : Int) < (chs.length : Int) := by omega
     have e0 := Cx hk
     have cx := cr _ (Kz hk)
     have sm := Iz (l := chs.drop (k + 1)) fun x hx => cr x (List.mem_of_mem_drop hx)
     rw [List.length_drop] at sm
     refine PY hks2 e17 e16 i0 hb7 e0 ?_
     refine AN (fun h6 => ?_) (fun h6 => ?_)
     ·rw [if_neg (by omega)] at hp
      have w5 : IntKind.i64.wrap (t - Ao chs k) = t - Ao chs k := by rw [wrap_i64] <;> omega
      repeat (first | rw [ko] | rw [kr] | simp -dsimp -implicitDefEqProofs only [go_sem, sQ1, i0, hb7, e0, w5, AU hk (by omega)])
      exact AI (m2 - 1) (by omega) AL ⟨k + 1, t - Ao chs k, rfl, AL, AL, by omega, by omega, by omega, by omega⟩
     ·rw [if_pos (by omega)] at hp
      have i1 : (0 : Int) ≤ (k : Int) ∧ (k : Int) < (top.length : Int) := by omega
      have e1 := Cx (l := top) (i := k) (by omega)
      refine DH i1 hb4 e1 ?_
      rw [right, hp]
      exact ⟨L4, .inr ⟨[_, _, _], rfl⟩, rfl⟩
end Go.Bi
end
section
set_option maxRecDepth 20000
namespace Go.Bi
open Go.Proofs
open Go.Ai (wrap_i64 wrap_u64 wrap_u8 Heap chanceI)
variable {W0 : World} {P : Program}
set_option maxHeartbeats 4000000
theorem Mx {F : Nat → AQ} {f : AQ} {c : Ac} {s : Int} {zs : List Int} {g : H2} (hn0 : c.stops.length ≤ 9223372036854775807) (hs : zs.length ≤ 1048576) :
  PW Tryz.prog W0 145 [.st (BR F c), .raw (.int .u64 s), .sl f 1 (ints zs)] g (fun r => r = U0 (Ax c s zs)) := by
 refine PW.plain (A7.asm fun h0 s0 ok0 => ?_)
 have hall : Bu (fun _ => True) (.sl f 1 (ints zs)) := (ok0 (.sl f 1 (ints zs)) (by simp)).all
 refine AH [[0, 1, 2], [1, 2, 3], [], [1, 2, 3], [1, 2, 3, 9], [1, 9], [1, 2, 9], [2, 9, 10, 11], [9, 10, 11, 12], [9, 10, 11, 12, 13], [9, 10, 11, 12, 13, 14], [9, 10, 11, 12, 13, 14], [9, 10, 11, 12, 13, 14], [9, 10, 11, 12, 13], [9, 10, 12, 15], [9, 10, 12, 15, 16], [9, 10, 12, 15, 16], [9, 10, 12, 15, 16], [9, 10, 16], [9, 10, 12, 15, 16], [9, 10]] Tryz.func145 rfl (rs := [.tmp 6, .tmp 7, .tmp 8]) rfl rfl ?_
 intro wf
 refine zr ?_
 refine AD (Gw hn0) ?_
 rintro _ n1 hn1 rfl
 have wrong : ¬ (DV c = true ∧ inI zs.length 1 400 = true ∧ allI zs (-1000000) 1000000 = true) → U0 (Ax c s zs) = .tp [.raw (.int .i64 0), .raw (.int .u64 0), .raw (.bool false)] := fun h => by rw [Ax, if_neg h]; rfl
 cases hc : DV c
 ·refine zr ?_
  exact ⟨AZ, .inr ⟨[_, _, _], rfl⟩, (wrong (by rw [hc]; simp)).symm⟩
 refine zr ?_
 refine AA Ab ?_
 rintro _ h1 ⟨rfl, rfl⟩
 cases hl : inI zs.length 1 400
 ·refine zr ?_
  exact ⟨AZ, .inr ⟨[_, _, _], rfl⟩, (wrong (by rw [hl]; simp)).symm⟩
 refine zr ?_
 refine AD (BB (by omega)) ?_
 rintro _ n2 hn2 rfl
 cases ha : allI zs (-1000000) 1000000
 ·refine zr ?_
  exact ⟨AZ, .inr ⟨[_, _, _], rfl⟩, (wrong (by rw [ha]; simp)).symm⟩
 refine zr ?_
 refine AA (PE hs) ?_
 rintro v3 g3 ⟨l3, o3⟩
 have hcfg : hg g3 (hn g .mk) .mk = some ⟨4, BR F c⟩ := (l3.2 (hn g .mk) (by rw [AB] at hn1; simp only [AF] at *; omega)).trans AL
 have L3 : g.le g3 := H2.le.trans AZ l3
 have htop : inI c.top 1 8 = true := by unfold DV at hc; simp only [Bool.and_eq_true] at hc; exact hc.1
 have hzs := Pq hl
 have tl := J1 (zs := zs) htop (by omega) (by omega)
 obtain ⟨b, rfl, hb1, hb2, hb3⟩ := o3.blk (by intro e; rw [e] at tl; simp at tl)
 have right : Ax c s zs = (if c.top = 1 then (Ao (CP zs c.top) 0, s, true) else (Ao (CP zs c.top) (Fx (chanceI zs (CP zs c.top)) (FX s zs (CP zs c.top))), CX s, true)) := by rw [Ax, if_pos ⟨hc, hl, ha⟩]
 generalize ht : CP zs c.top = top at *
 refine A1 hcfg ?_
 refine AN (fun h4 => ?_) (fun h4 => ?_)
 ·have i0 : (0 : Int) ≤ 0 ∧ (0 : Int) < (top.length : Int) := by omega
  have e0 := Cx (l := top) (i := 0) (by omega)
  repeat (first | rw [ko] | rw [kr] | simp -dsimp -implicitDefEqProofs only [go_sem, sQ1, i0, hb3, e0, Int.toNat_zero])
  rw [right, if_pos h4]
  exact ⟨L3, .inr ⟨[_, _, _], rfl⟩, rfl⟩
 ·rw [if_neg h4] at right
  refine zr ?_
  refine AA Jq ?_
  rintro _ g5 ⟨rfl, rfl⟩
  refine zr ?_
  obtain ⟨F2, hF2⟩ := o3.lent
  refine AA (PI.lend (.cons (Fz.sl hall) (.cons hF2 .nil)) (specChanceOf_ok (by omega) (by omega) hs (by omega))) ?_
  rintro v4 g4 ⟨l4, o4⟩
  have hmem : ∀ x ∈ top, 0 ≤ x ∧ x < zs.length := fun x hx => MD (k := c.top) (by rw [ht]; exact hx)
  obtain ⟨cl, c0⟩ := GY hmem
  have sr := OC hmem tl.1 tl.2
  have dr := KI (s := s) sr
  have cr : ∀ x ∈ chanceI zs top, 0 ≤ x ∧ x ≤ 256 := fun x hx => Ip hx
  have L4 : g.le g4 := L3.trans l4
  have hb4 := (l4.2 b hb2).trans hb3
  obtain ⟨b', rfl, hb5, hb6, hb7⟩ := o4.blk (by intro e; rw [e] at cl; simp at cl; omega)
  generalize hch : chanceI zs top = chs at *
  refine zr ?_
  refine AJ [9, 10, 11, 12] (fun m e h' => ∃ (i : Nat) (t : Int), h' = g4 ∧ look e 14 .mk = .raw (.int .i64 (i : Nat)) ∧ look e 13 .mk = .raw (.int .i64 t) ∧ m + i = chs.length ∧ t + Bw (chs.drop i) = Bw chs ∧ 0 ≤ t ∧ t ≤ 256 * i) chs.length ?_ ?_
  ·exact ⟨0, 0, rfl, AL, AL, by omega, by simp, by omega, by omega⟩
  ·rintro m e h' hks ⟨i, t, hge, e14, e13, hm, hsum, ht1, ht2⟩
   subst hge
   simp -dsimp -implicitDefEqProofs only [go_sem, sQ1] at hks
   refine DH hks e14 e13 ?_
   refine AN (fun h5 => ?_) (fun h5 => ?_)
   ·have h6 : i < chs.length := by omega
    have i0 : (0 : Int) ≤ (i : Int) ∧ (i : Int) < (chs.length : Int) := by omega
    have e0 := Cx h6
    have cx := cr _ (Kz h6)
    have w1 : IntKind.i64.wrap (t + Ao chs i) = t + Ao chs i := by rw [wrap_i64] <;> omega
    repeat (first | rw [ko] | rw [kr] | simp -dsimp -implicitDefEqProofs only [go_sem, sQ1, i0, hb7, e0, w1, AU h6 (by omega)])
    refine AI (m - 1) (by omega) AL ⟨i + 1, t + Ao chs i, rfl, AL, AL, by omega, ?_, by omega, by omega⟩
    rw [Hy h6] at hsum; omega
   ·refine zr ?_
    have hi : i = chs.length := by omega
    have ht3 : t = Bw chs := by
     rw [hi, List.drop_length] at hsum
     simpa [Bw] using hsum
    subst ht3
    have w2 : IntKind.u64.wrap (Bw chs) = Bw chs := by rw [wrap_u64]; omega
    have w3 : (Bw chs == 0) = false := Cw
    have w4 : IntKind.i64.wrap ((JO (CX s)).tmod (Bw chs)) = (JO (CX s)).tmod (Bw chs) := by rw [wrap_i64] <;> omega
    rw [← dr.1] at w4
    repeat (first | rw [ko] | rw [kr] | simp -dsimp -implicitDefEqProofs only [go_sem, sQ1, w2, w3, w4, ← dr.1])
    obtain ⟨_, d0, d1⟩ := dr
    generalize FX s zs top = d at *
    refine AJ [9, 10, 12] (fun m e h2 => ∃ (k : Nat) (t : Int), h2 = h' ∧ look e 16 .mk = .raw (.int .i64 (k : Nat)) ∧ look e 15 .mk = .raw (.int .i64 t) ∧ m + k = chs.length ∧ Fx chs d = k + Fx (chs.drop k) t ∧ 0 ≤ t ∧ t < Bw (chs.drop k)) chs.length ?_ ?_
    ·exact ⟨0, d, rfl, AL, AL, by omega, by simp, d0, by simpa using d1⟩
    ·rintro m2 e2 h2 hks2 ⟨k, t, rfl, e16, e15, hm2, hp, ht1, ht2⟩
     simp -dsimp -implicitDefEqProofs only [go_sem, sQ1] at hks2
     have hk : k < chs.length := by
      refine Decidable.byContradiction fun hk => ?_
      rw [List.drop_eq_nil_of_le (by omega)] at ht2
      simp only [Bw] at ht2; omega
     rw [Hy hk] at ht2
     rw [Mf hk, Fx] at hp
     have i0 : (0 : Int) ≤ (k : Int) ∧ (k : Int) < (chs.length : Int) := by omega
     have i1 : (0 : Int) ≤ (k : Int) ∧ (k : Int) < (top.length : Int) := by omega
     have i2 := i1.2
     have e0 := Cx hk
     have cx := cr _ (Kz hk)
     have sm := Iz (l := chs.drop (k + 1)) fun x hx => cr x (List.mem_of_mem_drop hx)
     rw [List.length_drop] at sm
     refine Tk hks2 e16 e15 i2 i0 hb7 e0 ?_
     refine AN (fun h6 => ?_) (fun h6 => ?_)
     ·rw [if_pos (by omega)] at hp
      have e1 := Cx (l := top) (i := k) (by omega)
      refine DH i1 hb4 e1 ?_
      rw [right, hp]
      exact ⟨L4, .inr ⟨[_, _, _], rfl⟩, rfl⟩
     ·rw [if_neg (by omega)] at hp
      have w5 : IntKind.i64.wrap (t - Ao chs k) = t - Ao chs k := by rw [wrap_i64] <;> omega
      repeat (first | rw [ko] | rw [kr] | simp -dsimp -implicitDefEqProofs only [go_sem, sQ1, i0, hb7, e0, w5, AU hk (by omega)])
      exact AI (m2 - 1) (by omega) AL ⟨k + 1, t - Ao chs k, rfl, AL, AL, by omega, by omega, by omega, by omega⟩
end Go.Bi
end
section
set_option maxRecDepth 20000
namespace Go.Bi
open Go.Proofs
open Go.Ai (wrap_i64 wrap_u64 wrap_u8 Heap chanceI)
variable {W0 : World} {P : Program}
set_option maxHeartbeats 8000000
theorem Qc {r s x : List Int} (h : Dh r s = true) (hx : Ay 127 x) : ∀ {n : Nat}, n ≤ r.length → -CK r s n ≤ Aq (fun i => s.getD (i / 4) default * r.getD i default * x.getD i default) n ∧ Aq (fun i => s.getD (i / 4) default * r.getD i default * x.getD i default) n ≤ CK r s n
 | 0, _ => ⟨by simp [CK, Aq], by simp [CK, Aq]⟩
 | n + 1, hn => by
  have ih := Qc h hx (n := n) (by omega)
  obtain ⟨f1, f2, f3, f4⟩ := H3 h
  have hs : 0 ≤ s.getD (n / 4) default := by
   have hi : n / 4 < s.length := by omega
   have := f4 _ (BG hi)
   omega
  have hx1 := Ag (by omega) hx n
  have e1 : 0 ≤ Dg (r.getD n default) ∧ -Dg (r.getD n default) ≤ r.getD n default ∧ r.getD n default ≤ Dg (r.getD n default) := by unfold Dg; split <;> omega
  have h1 : -(s.getD (n / 4) default * Dg (r.getD n default)) ≤ s.getD (n / 4) default * r.getD n default ∧ s.getD (n / 4) default * r.getD n default ≤ s.getD (n / 4) default * Dg (r.getD n default) := by
   have a := Int.mul_le_mul_of_nonneg_left e1.2.1 hs
   have b := Int.mul_le_mul_of_nonneg_left e1.2.2 hs
   rw [Int.mul_neg] at a
   exact ⟨a, b⟩
  have h2 := Br h1 hx1
  have e2 : s.getD (n / 4) default * Dg (r.getD n default) * 127 = s.getD (n / 4) default * 127 * Dg (r.getD n default) := by rw [Int.mul_assoc, Int.mul_comm (Dg _), ← Int.mul_assoc]
  rw [e2] at h2
  simp only [CK, Aq]
  omega
theorem Xz {m : AR} {w n : Int} {x : List Int} (h : BD m w n = true) (hx : Ay 127 x) : Ay 600000 (Az m x) := fun y hy => by
 obtain ⟨i, hi, rfl⟩ := List.mem_map.1 hy
 have h1 := (HL (Cz h).1).2.2.2.2.2 i (List.mem_range.1 hi)
 unfold BD at h
 simp only [Bool.and_eq_true] at h
 have h2 := of_decide_eq_true (List.all_eq_true.1 h.2.2.2 i hi)
 have h3 := Qc h1.2 hx (n := (m.rows.getD i default).length) (Nat.le_refl _)
 unfold FK G7 at h2
 rw [if_pos h1.2] at h2
 unfold ar
 omega
theorem Rc {m : AM} {past : List BS} {t : Nat} (ht : CA m) : Ay 600000 (Bn m past t) := Xz ht.head Nx
theorem U3 {c : Ac} {s : Int} {zs : List Int} (hc : DV c = true) (h1 : 1 ≤ zs.length) (h2 : zs.length ≤ 400) (ha : Ay 600000 zs) :
  (Ax c s zs).2.2 = true ∧ 0 ≤ (Ax c s zs).1 ∧ (Ax c s zs).1 < zs.length := by
 have htop : inI c.top 1 8 = true := by unfold DV at hc; simp only [Bool.and_eq_true] at hc; exact hc.1
 have hl : inI zs.length 1 400 = true := by simp only [inI, Bool.and_eq_true, decide_eq_true_eq]; omega
 have hall : allI zs (-1000000) 1000000 = true := by
  rw [allI, List.all_eq_true]; intro z hz
  have := ha z hz
  simp only [inI, Bool.and_eq_true, decide_eq_true_eq]; omega
 have tl := J1 (zs := zs) htop h1 h2
 have hmem : ∀ x ∈ CP zs c.top, 0 ≤ x ∧ x < zs.length := fun x hx => MD hx
 have hlat : ∀ K, K < (CP zs c.top).length → Ao (CP zs c.top) K ∈ CP zs c.top := fun K hK => BG (l := CP zs c.top) hK
 by_cases h : c.top = 1
 ·have e : Ax c s zs = (Ao (CP zs c.top) 0, s, true) := by rw [Ax, if_pos ⟨hc, hl, hall⟩, if_pos h]
  rw [e]
  exact ⟨rfl, hmem _ (hlat 0 (by omega))⟩
 ·have sr := OC hmem tl.1 tl.2
  obtain ⟨_, d0, d1⟩ := KI (s := s) sr
  have e : Ax c s zs = (Ao (CP zs c.top) (Fx (chanceI zs (CP zs c.top)) (FX s zs (CP zs c.top))), CX s, true) := by rw [Ax, if_pos ⟨hc, hl, hall⟩, if_neg h]
  rw [e]
  exact ⟨rfl, hmem _ (hlat _ (by rw [← (GY hmem).1]; exact Wx d1 d0))⟩
theorem Xf {ts l : List Int} {i : Nat} (h : i < ts.length) : (ts ++ l).getD i default = ts.getD i default := by
 rw [List.getD_eq_getElem?_getD, List.getD_eq_getElem?_getD, List.getElem?_append_left h]
theorem Nb {ts : List Int} {x : Int} : (ts ++ [x]).getD ts.length default = x := by
 rw [List.getD_eq_getElem?_getD, List.getElem?_append_right (Nat.le_refl _), Nat.sub_self]; rfl
theorem Ji {m : AM} {ts l : List Int} : ∀ {n : Nat}, n ≤ ts.length → AS m (ts ++ l) n = AS m ts n
 | 0, _ => rfl
 | n + 1, h => by rw [AS, AS, Ji (by omega), Xf (by omega)]
theorem Lv {m : AM} {ts : List Int} {x : Int} : AS m (ts ++ [x]) (ts ++ [x]).length = AS m ts ts.length ++ [Bb m (AS m ts ts.length) x.toNat] := by
 rw [List.length_append, List.length_singleton, AS, Ji (Nat.le_refl _), Nb]
theorem MC {m : AM} {ts : List Int} {x : Int} : Aw m (ts ++ [x]) (ts ++ [x]).length = Bn m (AS m ts ts.length) x.toNat := by
 rw [List.length_append, List.length_singleton, Aw, Ji (Nat.le_refl _), Nb]
def Mr (m : AM) (ts : List Int) (c : Ac) : Bool := DV c && (IP m ts && decide ((ts.length : Int) + c.new ≤ m.context))
def Ca (m : AM) (c : Ac) : Nat → List Int → Int → List Int × Int
 | 0, _, s => ([], s)
 | k + 1, ts, s => if (Ax c s (Aw m ts ts.length)).1 = 0 then ([], (Ax c s (Aw m ts ts.length)).2.1)
  else ((Ax c s (Aw m ts ts.length)).1 :: (Ca m c k (ts ++ [(Ax c s (Aw m ts ts.length)).1]) (Ax c s (Aw m ts ts.length)).2.1).1, (Ca m c k (ts ++ [(Ax c s (Aw m ts ts.length)).1]) (Ax c s (Aw m ts ts.length)).2.1).2)
def HK (m : AM) (ts : List Int) (c : Ac) (s : Int) : List Int := if Mr m ts c = true then (Ca m c c.new.toNat ts s).1 else []
def Qk (m : AM) (ts : List Int) (c : Ac) (s : Int) : Int := if Mr m ts c = true then (Ca m c c.new.toNat ts s).2 else 0
theorem Mp {m : AM} {ts : List Int} (ht : CA m) (h1 : 1 ≤ ts.length) : (1 ≤ (Aw m ts ts.length).length ∧ (Aw m ts ts.length).length ≤ 300 ∧ ((Aw m ts ts.length).length : Int) = B2 m) ∧ Ay 600000 (Aw m ts ts.length) := by
 obtain ⟨n, hn⟩ : ∃ n, ts.length = n + 1 := ⟨ts.length - 1, by omega⟩
 rw [hn, Aw]
 exact ⟨Sk ht, Rc ht⟩
theorem KO {m : AM} {c : Ac} {s : Int} {ts : List Int} (ht : CA m) (hc : DV c = true) (h1 : 1 ≤ ts.length) :
  (Ax c s (Aw m ts ts.length)).2.2 = true ∧ 0 ≤ (Ax c s (Aw m ts ts.length)).1 ∧ (Ax c s (Aw m ts ts.length)).1 < B2 m := by
 obtain ⟨⟨a1, a2, a3⟩, a4⟩ := Mp (ts := ts) ht h1
 have := U3 (s := s) hc a1 (by omega) a4
 rwa [a3] at this
theorem Ny {l : List Int} {x a b : Int} (h : allI l a b = true) (h1 : a ≤ x) (h2 : x ≤ b) : allI (l ++ [x]) a b = true := by
 unfold allI at h ⊢
 rw [List.all_append, h]
 simp only [List.all_cons, List.all_nil, inI, Bool.and_true, Bool.true_and, Bool.and_eq_true, decide_eq_true_eq]
 exact ⟨h1, h2⟩
theorem Pb {m : AM} {c : Ac} : ∀ {k : Nat} {ts : List Int} {s : Int}, (Ca m c k ts s).1.length ≤ k
 | 0, _, _ => Nat.le_refl _
 | k + 1, ts, s => by
  rw [Ca]; split
  ·exact Nat.zero_le _
  ·have := Pb (m := m) (c := c) (k := k) (ts := ts ++ [(Ax c s (Aw m ts ts.length)).1]) (s := (Ax c s (Aw m ts ts.length)).2.1)
   simp only [List.length_cons]; omega
theorem VI {F : Nat → AQ} {m : AM} {p : Option Nat} {r s : Int} {f : AQ} {ts : List Int} {g : H2} (mt : Mt p g r s) (ht : CA m) (h1 : 1 ≤ ts.length) (hl : (ts.length : Int) ≤ m.context) (ha : allI ts 0 (B2 m - 1) = true) (hsz : m.embed.length ≤ 1048576) :
  A7 Tryz.prog W0 82 [.st (Gx F m (DS p)), .sl f 1 (ints ts)] g (fun y g' => AV p g g' ∧ Mt p g' (D7 m ts r ts.length) (D5 m ts s ts.length) ∧ ∃ v f2 cs, y = .tp [v, .sl f2 1 (ints (Aw m ts ts.length)), .raw (.bool true)] ∧ Own (hn g .mk + 1) g' v 2 (AS m ts ts.length).length cs ∧ C9 De 2 cs (AS m ts ts.length)) := by
 have hct := (EZ ht.turns).1
 have hNp : ∀ b, p = some b → b < hn g .mk + 1 := fun b e => by have := (mt b e).1; omega
 have p0 : p ≠ some (hn g .mk) := fun e => by have := (mt _ e).1; omega
 refine AH [[0, 1], [1, 2], [1, 2, 7, 8], [2, 7, 8, 16, 17, 18], [2, 7, 16, 17, 18], [2, 7, 10, 16, 17, 18], [2, 7, 11, 12, 13, 16, 17, 18], [], [2, 7, 11, 12, 16, 17, 18], [2, 7, 12, 16, 17, 18], [2, 7, 8, 16, 17, 18], [7, 8]] Tryz.func82 rfl (rs := [.tmp 4, .tmp 5, .tmp 6]) rfl rfl ?_
 intro wf
 refine zh ?_
 refine AJ [2, 16, 17] (fun mm e h' => ∃ (i : Nat) (v x : X) (cs : List X), AV p g h' ∧ hn g .mk + 1 ≤ hn h' .mk ∧ Mt p h' (D7 m ts r i) (D5 m ts s i) ∧ hg h' (hn g .mk) .mk = some ⟨15, [.raw (.int .i64 m.dim), .raw (.int .i64 m.heads), .raw (.int .i64 m.context), .sl (F 3) 2 (AY m.merges), .sl (F 4) 1 (AE m.embed), .sl (F 5) 32 (Af m.layers), .sl (F 6) 1 (ints m.gainEnd), .raw (.int .i64 m.head.width), .sl (F 8) 1 (AE m.head.rows), .sl (F 9) 1 (AE m.head.scales), .raw (.int .i64 m.head.mul), .raw (.int .i64 m.head.shift), .sl (F 12) 1 (AE m.turns.cos), .sl (F 13) 1 (AE m.turns.sin), .raw (DS p)]⟩ ∧ look e 18 .mk = .raw (.int .i64 (i : Nat)) ∧ look e 7 .mk = v ∧ look e 8 .mk = x ∧ (A3 x = some [x] ∧ FC x = true ∧ Bg x = false) ∧ (0 < i → ∃ f2, x = .sl f2 1 (ints (Aw m ts i))) ∧ mm + i = ts.length ∧ Own (hn g .mk + 1) h' v 2 (AS m ts i).length cs ∧ C9 De 2 cs (AS m ts i)) ts.length ?_ ?_
 ·have hne : (hn g .mk == hn g .mk + 1) = false := by simp
  have hne2 : (hn g .mk == hn g .mk + 1 + 1) = false := Cw
  have hne3 : (hn g .mk + 1 == hn g .mk + 1 + 1) = false := by simp
  refine ⟨0, _, _, [], AV.push (AV.push (AV.push AV.refl)), by simp only [AB]; omega, mt.push.push.push, by simp -dsimp -implicitDefEqProofs only [go_sem, Av, hne, hne2], AL, by simp -dsimp -implicitDefEqProofs only [go_sem, sQ1] <;> rfl, by simp -dsimp -implicitDefEqProofs only [go_sem, sQ1] <;> rfl, ⟨rfl, rfl, rfl⟩, fun h => ?_, by omega, ⟨rfl, .inr ⟨_, rfl, by omega, by simp only [AB]; omega, by simp -dsimp -implicitDefEqProofs only [go_sem, Av, hne3] <;> rfl⟩⟩, .nil⟩
  omega
 rintro mm e h' hks ⟨i, v, x, cs, onL, nn, mtL, row, ei, ev, ex, cx, hfx, hm, ow, hc⟩
 simp -dsimp -implicitDefEqProofs only [go_sem, sQ1] at hks
 have c0 := D8 ow
 have hfl := BO (m := m) (ts := ts) (n := i)
 by_cases q1 : (i : Int) < (ts.length : Int)
 ·have q2 : i < ts.length := by omega
  have w1 := BE i (by omega)
  obtain ⟨k0, k1⟩ := Jh ht ha q2
  obtain ⟨k, hk⟩ := Int.eq_ofNat_of_zero_le k0
  have hkn : (ts.getD i default).toNat = k := by omega
  have hpast := It (ts := ts) ht (n := i) (by omega) (fun j hj => (Jh ht ha hj).2)
  obtain ⟨f3, hf3⟩ := Gf M9 (p := fun c => p ≠ some c) ow hc (fun b hb e => by have := hNp b e; omega)
  repeat (first | rw [ko] | rw [kr] | simp -dsimp -implicitDefEqProofs only [go_sem, sQ1, hks, ei, ev, ex, q1, q2, row, hk])
  refine Bm (PM.lend (.cons (EI (xs := Gx F m (DS p)) rfl) (.cons hf3 (.cons .raw .nil))) mtL (NG (F := F) (past := AS m ts i) (t := k) mtL.bar ht hpast (by omega) (by omega) hsz) (fun y hy => by have := hy.2; rwa [CW] at this)) ?_
  rintro _ n1 hn1 ⟨⟨F', f4, rfl⟩, _⟩
  have q3 : (p == some (hn g .mk)) = false := by cases p with | none => rfl | some b => simp at p0 ⊢; omega
  refine zh ?_
  have onS : AV p h' _ := AV.put (c := n1) (k := ⟨2, [.sl (F' 0) 1 (An (Bb m (AS m ts i) k).keys), .sl (F' 1) 1 (An (Bb m (AS m ts i) k).values)]⟩) (AV.push (k := ⟨2, [.raw (.slice none 0 0), .raw (.slice none 0 0)]⟩) (AV.up (n := n1) (AV.gM (r := EL m (AS m ts i) k (D7 m ts r i)) (s := ED m (AS m ts i) k (D5 m ts s i)) AV.refl) (by rw [Bj]; exact hn1))) hn1
  have mtS : Mt p _ _ _ := Mt.put (c := n1) (k := ⟨2, [.sl (F' 0) 1 (An (Bb m (AS m ts i) k).keys), .sl (F' 1) 1 (An (Bb m (AS m ts i) k).values)]⟩) (Mt.push (k := ⟨2, [.raw (.slice none 0 0), .raw (.slice none 0 0)]⟩) (Mt.up (n := n1) (Mt.set (r' := EL m (AS m ts i) k (D7 m ts r i)) (s' := ED m (AS m ts i) k (D5 m ts s i)) mtL) (by rw [Bj]; exact hn1))) (mtL.ne hn1)
  refine V6 (P := Tryz.prog) (a := Bb m (AS m ts i) k) M9 Go.Ai.ty_el47 Go.Ai.ty_zr37 rfl Go.Ai.ty_cl47 (by omega) (Own.on ow onS mtL hNp) hc (by simp only [AF, AB, AG]; omega) (by rw [hfl]; omega) ?_
  intro v4 g4 cs4 ow4 hc4 nn4 on4
  have e4 : AS m ts (i + 1) = AS m ts i ++ [Bb m (AS m ts i) k] := by rw [AS, hkn]
  have e5 : Aw m ts (i + 1) = Bn m (AS m ts i) k := by rw [Aw, hkn]
  have e6 : D7 m ts r (i + 1) = EL m (AS m ts i) k (D7 m ts r i) := by rw [D7, hkn]
  have e7 : D5 m ts s (i + 1) = ED m (AS m ts i) k (D5 m ts s i) := by rw [D5, hkn]
  rw [← e4] at ow4 hc4
  have row4 : hg g4 (hn g .mk) .mk = _ := (on4 (hn g .mk) (by omega)).trans ((onS.2 (hn g .mk) (by omega) p0).trans row)
  have c4 := D8 ow4
  refine A1 w1 ?_
  exact AI (mm - 1) (by omega) AL ⟨i + 1, v4, _, cs4, AV.below (onL.trans onS) (by omega) nn4 on4, nn4, by rw [e6, e7]; exact Mt.below mtS hNp nn4 on4, row4, AL, AL, by simp -dsimp -implicitDefEqProofs only [go_sem, sQ1] <;> rfl, ⟨rfl, rfl, rfl⟩, fun _ => ⟨f4, by rw [e5]⟩, by omega, ow4, hc4⟩
 ·refine Tk hks ei ev ex q1 c0 cx ?_
  obtain rfl : i = ts.length := by omega
  obtain ⟨f2, rfl⟩ := hfx (by omega)
  exact ⟨onL, mtL, v, f2, cs, rfl, ow, hc⟩
end Go.Bi
end
section
set_option maxRecDepth 20000
namespace Go.Bi
open Go.Proofs
open Go.Ai (wrap_i64 wrap_u64 wrap_u8 Heap)
variable {W0 : World} {P : Program}
theorem OT.israw {g : H2} {bs : List Nat} {x : X} {t : T} (o : OT g bs x t) : ∃ v, x = .raw v := by cases o <;> exact ⟨_, rfl⟩
theorem Ak.israw {g : H2} : ∀ {bs : List Nat} {xs : List X} {ts : List T}, Ak g bs xs ts → ∀ x ∈ xs, ∃ v, x = .raw v
 | _, _, _, .nil, x, hx => by cases hx
 | _, _, _, .cons a b, x, hx => by
  rcases List.mem_cons.1 hx with rfl | hx
  ·exact a.israw
  ·exact b.israw x hx
mutual
theorem OT.rows {g : H2} : ∀ {bs : List Nat} {x : X} {t : T}, OT g bs x t → ∀ b ∈ bs, ∃ k, g.get b = some k ∧ ∀ y ∈ k.cs, ∃ v, y = X.raw v
 | _, _, _, .raw h, b, hb => by cases hb
 | _, _, _, .nil, b, hb => by cases hb
 | _, _, _, .row h1 h2 h3 h4 h5, b, hb => by
  rcases List.mem_cons.1 hb with rfl | hb
  ·exact ⟨_, h1, h5.israw⟩
  ·exact h5.rows b hb
theorem Ak.rows {g : H2} : ∀ {bs : List Nat} {xs : List X} {ts : List T}, Ak g bs xs ts → ∀ b ∈ bs, ∃ k, g.get b = some k ∧ ∀ y ∈ k.cs, ∃ v, y = X.raw v
 | _, _, _, .nil, b, hb => by cases hb
 | _, _, _, .cons h1 h2, b, hb => by
  rcases List.mem_append.1 hb with hb | hb
  ·exact h1.rows b hb
  ·exact h2.rows b hb
end
theorem A7.lendTree {g : H2} {f : FuncId} {xs ys : List X} {R : X → H2 → List Nat → Prop} (hl : Fu g xs ys)
    (c : A7 P W0 f ys g.bare fun x g' => g.bare.le g' ∧ ∃ bs, R x g' bs ∧ Bl (hn g .mk) (hn g' .mk) bs)
    (hfr : ∀ x g' g2 bs, R x g' bs → (∀ b ∈ bs, g2.get b = g'.get b) → R x g2 bs)
    (hrow : ∀ x g' bs, R x g' bs → ∀ b ∈ bs, ∃ k, g'.get b = some k ∧ ∀ y ∈ k.cs, ∃ v, y = X.raw v)
    (hok : ∀ x g' bs, R x g' bs → ∀ h g2, Ok h g2 x) :
    A7 P W0 f xs g fun x g' => g.le g' ∧ ∃ bs, R x g' bs ∧ Bl (hn g .mk) (hn g' .mk) bs := by
  intro h s o
  rw [← hl.er]
  refine (c h s.bare (hl.ok s o)).mono ?_
  rintro v h' ⟨y, g', rfl, s', x', o', le, bs, r, bl⟩
  have hn1 : hn g .mk = h.n := s.n
  have hn2 : hn g' .mk = h'.n := s'.n
  have hbn : ∀ c, c < h.n → c ∉ bs := fun c hc hb => by have := (bl.2 c hb).1; omega
  let g2 : H2 := ⟨h'.n, fun b => if b ∈ bs then g'.get b else g.get b⟩
  have hx2 : Ext g h g2 h' := ⟨x'.n, fun c hc _ => x'.keep c hc rfl, fun c hc hg => by
    show (if c ∈ bs then g'.get c else g.get c) = none
    rw [if_neg (hbn c hc)]; exact hg⟩
  refine ⟨_, g2, rfl, ⟨rfl, fun c k hk => ?_⟩, hx2, hok _ _ _ r _ _, ⟨?_, fun c hc => ?_⟩, bs, hfr _ _ _ _ r fun b hb => ?_, bl.wide (Nat.le_refl _) (Nat.le_of_eq hn2)⟩
  · by_cases hb : c ∈ bs
    · have hk' : g'.get c = some k := by
        have : (if c ∈ bs then g'.get c else g.get c) = some k := hk
        rwa [if_pos hb] at this
      obtain ⟨k2, e2, hr⟩ := hrow _ _ _ r c hb
      rw [e2] at hk'
      cases hk'
      obtain ⟨q1, q2, q3⟩ := s'.row c _ e2
      exact ⟨q1, q2, fun x hx => by obtain ⟨v, rfl⟩ := hr x hx; exact .raw⟩
    · have hk' : g.get c = some k := by
        have : (if c ∈ bs then g'.get c else g.get c) = some k := hk
        rwa [if_neg hb] at this
      obtain ⟨q1, q2, q3⟩ := s.row c k hk'
      exact ⟨Nat.lt_of_lt_of_le q1 x'.n, by rw [x'.keep c q1 rfl]; exact q2, fun y hy => (q3 y hy).mono hx2⟩
  · have := x'.n
    show hn g .mk ≤ h'.n
    omega
  · show (if c ∈ bs then g'.get c else g.get c) = g.get c
    rw [if_neg (hbn c (by omega))]
  · show (if b ∈ bs then g'.get b else g.get b) = g'.get b
    rw [if_pos hb]
def Rp (E : T) (vs : List Value) (x : X) (g : H2) (bs : List Nat) : Prop := ∃ v, x = .tp (v :: vs.map .raw) ∧ OT g bs v E
theorem Qf {g : H2} {f : FuncId} {xs ys : List X} {E : T} {vs : List Value} (hl : Fu g xs ys)
  (c : A7 P W0 f ys g.bare fun x g' => g.bare.le g' ∧ ∃ bs, Rp E vs x g' bs ∧ Bl (hn g .mk) (hn g' .mk) bs) :
  A7 P W0 f xs g fun x g' => g.le g' ∧ ∃ bs, Rp E vs x g' bs ∧ Bl (hn g .mk) (hn g' .mk) bs := by
 refine A7.lendTree hl c ?_ ?_ ?_
 ·rintro x g' g2 bs ⟨v, rfl, o⟩ hb
  exact ⟨v, rfl, o.frame hb⟩
 ·rintro x g' bs ⟨v, rfl, o⟩
  exact o.rows
 ·rintro x g' bs ⟨v, rfl, o⟩ h g2
  refine .tp fun x hx => ?_
  rcases List.mem_cons.1 hx with rfl | hx
  ·obtain ⟨v, rfl⟩ := o.israw; exact .raw
  ·obtain ⟨v, _, rfl⟩ := List.mem_map.1 hx; exact .raw
end Go.Bi
end
section
set_option maxRecDepth 20000
namespace Go.Bi
open Go.Proofs
open Go.Ai (wrap_i64 wrap_u64 wrap_u8 Heap)
variable {W0 : World} {P : Program}
set_option maxHeartbeats 8000000
theorem JP {c : Ac} (h : DV c = true) : 1 ≤ c.new ∧ c.new ≤ 24 := by
 unfold DV at h
 simp only [Bool.and_eq_true] at h
 exact Bs h.2.2.1
theorem YU {F F' : Nat → AQ} {m : AM} {c : Ac} {f : AQ} {ts : List Int} {g : H2} (hs : B4 m) (hl : ts.length ≤ 1048576) (hn0 : c.stops.length ≤ 9223372036854775807) : PW Tryz.prog W0 90 [.st (BH F m), .sl f 1 (ints ts), .st (BR F' c)] g (fun y => y = .raw (.bool (Mr m ts c))) := by
 refine PW.scalar ?_
 refine AH [[0, 1, 2], [1, 3, 5]] Tryz.func90 rfl (rs := [.tmp 6]) rfl rfl ?_
 intro wf
 refine zh ?_
 refine AD (Gp (F := F') hn0) ?_
 rintro _ n1 hn1 rfl
 simp only [AB] at hn1
 have L1 : ∀ k k2 : OB, g.le (((g.push k).push k2).up n1) := fun k k2 => AK (le_push (le_push (H2.le.refl _))) (by simp only [AB]; exact hn1)
 have z1 : (hn g .mk == hn g .mk + 1) = false := by simp
 cases h1 : DV c
 ·refine zh ?_
  exact ⟨L1 _ _, ⟨_, rfl⟩, by rw [Mr, h1]; rfl⟩
 have hc := JP h1
 refine DC z1 ?_
 refine AD (QO (F := F) hs hl) ?_
 rintro _ n2 hn2 rfl
 simp only [AF] at hn2
 have L2 : ∀ k k2 : OB, g.le ((((g.push k).push k2).up n1).up n2) := fun k k2 => AK (L1 k k2) (by simp only [AF]; exact hn2)
 cases h2 : IP m ts
 ·refine zh ?_
  exact ⟨L2 _ _, ⟨_, rfl⟩, by rw [Mr, h1, h2]; rfl⟩
 have wl := AX (x := (ts.length : Int) + c.new) (by omega)
 refine LM z1 wl ?_
 exact ⟨L2 _ _, ⟨_, rfl⟩, by rw [Mr, h1, h2]; rfl⟩
abbrev eN (n : Int) : List T := [T.v (.int .i64 n)]
theorem Own.rowF {α : Type} {e : α → List T} {z N n : Nat} {g : H2} {v : X} {cs : List X} {l : List α} (o : Own N g v z n cs) (hc : C9 e z cs l) (h0 : 0 < n) : ∃ b, v = .raw (.slice (some ⟨b, 0, none⟩) n n) ∧ N ≤ b ∧ CO e z g b l := by
 obtain ⟨_, h⟩ := o
 rcases h with ⟨rfl, h⟩ | ⟨b, rfl, h1, h2, h3⟩
 ·omega
 ·exact ⟨b, rfl, h1, h2, cs, h3, hc⟩
theorem NL : ∀ {cs : List X} {l : List Int}, CR cs = some (l.flatMap eN) → cs = l.map cI
 | [], [], _ => rfl
 | [], _ :: _, h => by simp [CR] at h
 | x :: cs, l, h => by
  rw [CR] at h
  split at h
  ·rename_i t r ht hr
   cases l with
   | nil => simp at h
   | cons a l =>
    simp only [List.flatMap_cons, eN, List.cons_append, List.nil_append, Option.some.injEq, List.cons.injEq] at h
    obtain ⟨rfl, h2⟩ := h
    rw [List.map_cons, NL (cs := cs) (l := l) (by rw [hr, h2])]
    have hx : x = cI a := by
     cases x with
     | raw v => simp only [Jc] at ht; split at ht <;> simp at ht; rw [ht]; rfl
     | sl f z es => simp [Jc] at ht
     | pr a f ts => simp [Jc] at ht
     | st xs => simp [Jc] at ht
     | tp xs => simp [Jc] at ht
    rw [hx]
  ·cases h
theorem CO.ownI {N b n : Nat} {g : H2} {zs : List Int} (r : CO eN 1 g b zs) (h : N ≤ b) (hn0 : n = zs.length) : Al N g (.raw (.slice (some ⟨b, 0, none⟩) n n)) zs := by
 subst hn0
 obtain ⟨h1, cs, h2, h3⟩ := r
 have e := NL h3.1
 subst e
 exact ⟨by simp, .inr ⟨b, rfl, h, h1, h2⟩⟩
theorem Pz {m : AM} {c : Ac} {K : Nat} {ts out : List Int} {s st : Int} (hg : Ca m c K ts s = (out ++ (Ca m c (K - out.length) (ts ++ out) st).1, (Ca m c (K - out.length) (ts ++ out) st).2)) (hk : out.length < K) (h0 : (Ax c st (Aw m (ts ++ out) (ts ++ out).length)).1 = 0) :
  Ca m c K ts s = (out, (Ax c st (Aw m (ts ++ out) (ts ++ out).length)).2.1) := by
 obtain ⟨q, hq⟩ : ∃ q, K - out.length = q + 1 := ⟨K - out.length - 1, by omega⟩
 rw [hg, hq, Ca, if_pos h0, List.append_nil]
theorem Nj {m : AM} {c : Ac} {K : Nat} {ts out : List Int} {s st x st' : Int} (hg : Ca m c K ts s = (out ++ (Ca m c (K - out.length) (ts ++ out) st).1, (Ca m c (K - out.length) (ts ++ out) st).2)) (hk : out.length < K) (h0 : x ≠ 0) (hx : (Ax c st (Aw m (ts ++ out) (ts ++ out).length)).1 = x) (hs : (Ax c st (Aw m (ts ++ out) (ts ++ out).length)).2.1 = st') :
  Ca m c K ts s = ((out ++ [x]) ++ (Ca m c (K - (out ++ [x]).length) (ts ++ (out ++ [x])) st').1, (Ca m c (K - (out ++ [x]).length) (ts ++ (out ++ [x])) st').2) := by
 obtain ⟨q, hq⟩ : ∃ q, K - out.length = q + 1 := ⟨K - out.length - 1, by omega⟩
 have hq2 : K - (out ++ [x]).length = q := by rw [List.length_append, List.length_singleton]; omega
 rw [hg, hq, Ca, hx, hs, if_neg h0, hq2, List.append_assoc, List.append_assoc, List.singleton_append]
theorem QA {m : AM} {c : Ac} {K : Nat} {ts out : List Int} {s st : Int} (hg : Ca m c K ts s = (out ++ (Ca m c (K - out.length) (ts ++ out) st).1, (Ca m c (K - out.length) (ts ++ out) st).2)) (hk : out.length = K) : Ca m c K ts s = (out, st) := by
 rw [hg, hk, Nat.sub_self, Ca, List.append_nil]
theorem QK {F F' : Nat → AQ} {m : AM} {c : Ac} {f : AQ} {ts : List Int} {s : Int} {g : H2} (hs : B4 m) (hl : ts.length ≤ 1048576) (hn0 : c.stops.length ≤ 9223372036854775807) :
  A7 Tryz.prog W0 36 [.st (BH F m), .sl f 1 (ints ts), .st (BR F' c), .raw (.int .u64 s)] g (fun x g' => g.le g' ∧ ∃ bs, Rp (.l 1 (ints (HK m ts c s))) [.int .u64 (Qk m ts c s), .bool (Mr m ts c)] x g' bs ∧ Bl (hn g .mk) (hn g' .mk) bs) := by
 refine AH [[0, 1, 2, 3], [1, 3, 4, 6], [], [1, 3, 4, 6], [1, 3, 6, 11], [3, 6, 11, 12, 13, 14], [3, 6, 11, 12, 13, 14, 15], [3, 6, 11, 12, 13, 14, 15], [6, 11, 12, 14, 15, 16, 17, 18], [3, 6, 11, 12, 14, 15, 16, 18], [3, 15, 18], [3, 6, 11, 12, 14, 15, 16], [3, 6, 11, 12, 14, 15, 16], [3, 6, 11, 12, 15, 16], [3, 6, 11, 12, 15, 16, 19], [3, 6, 11, 12, 13, 14, 15, 19], [3, 14, 15], [], [3, 15]] Tryz.func36 rfl (rs := [.tmp 8, .tmp 9, .tmp 10]) rfl rfl ?_
 intro wf
 have z1 : (hn g .mk == hn g .mk + 1) = false := by simp
 refine DC z1 ?_
 refine AD (YU (F := F) (F' := F') hs hl hn0) ?_
 rintro _ n1 hn1 rfl
 simp only [AB] at hn1
 have L1 : ∀ k k2 : OB, g.le (((g.push k).push k2).up n1) := fun k k2 => AK (le_push (le_push (H2.le.refl _))) (by simp only [AB]; exact hn1)
 cases h1 : Mr m ts c
 ·refine zh ?_
  exact ⟨L1 _ _, [], ⟨_, by rw [Qk, h1]; rfl, by rw [HK, h1]; exact OT.nil⟩, Bl.nil⟩
 have hO : HK m ts c s = (Ca m c c.new.toNat ts s).1 := by rw [HK, if_pos h1]
 have hS : Qk m ts c s = (Ca m c c.new.toNat ts s).2 := by rw [Qk, if_pos h1]
 rw [hO, hS]
 clear hO hS
 have hG := h1
 unfold Mr at h1
 simp only [Bool.and_eq_true, decide_eq_true_eq] at h1
 obtain ⟨hcfg, hthr, hctx⟩ := h1
 obtain ⟨t1, t2, t3⟩ := bh hthr
 have ht := Th t1
 have hnew := JP hcfg
 have z2 : (hn g .mk + 1 == n1) = false := Cw
 have z3 : (hn g .mk == n1) = false := Cw
 refine DC z1 ?_
 refine AA (VI (F := F) (p := none) (r := 0) (s := 0) Mt.none ht (by omega) (by omega) t3 hs.2.1.1) ?_
 rintro _ g2 ⟨on2, _, v, f2, cs, rfl, ow2, hc2⟩
 have hct := (EZ ht.turns).1
 obtain ⟨bv, hv, hbv, rv⟩ := Own.rowF ow2 hc2 (by rw [BO]; omega)
 rw [BO] at hv
 subst hv
 have nn2 := on2.1
 simp only [AB, AG, AF] at nn2 hbv
 have row2 : hg g2 n1 .mk = some ⟨15, [.raw (.int .i64 m.dim), .raw (.int .i64 m.heads), .raw (.int .i64 m.context), .sl (F 3) 2 (AY m.merges), .sl (F 4) 1 (AE m.embed), .sl (F 5) 32 (Af m.layers), .sl (F 6) 1 (ints m.gainEnd), .raw (.int .i64 m.head.width), .sl (F 8) 1 (AE m.head.rows), .sl (F 9) 1 (AE m.head.scales), .raw (.int .i64 m.head.mul), .raw (.int .i64 m.head.shift), .sl (F 12) 1 (AE m.turns.cos), .sl (F 13) 1 (AE m.turns.sin), .raw (.pointer none)]⟩ := (on2.2 n1 (by simp only [AB, AG, AF]; omega) (by simp)).trans (by simp -dsimp -implicitDefEqProofs only [go_sem, Av] <;> rfl)
 have cfg2 : hg g2 (hn g .mk + 1) .mk = some ⟨4, [.raw (.int .i64 c.top), .raw (.int .i64 c.seed), .raw (.int .i64 c.new), .sl (F' 3) 1 (strs c.stops)]⟩ := (on2.2 (hn g .mk + 1) (by simp only [AB, AG, AF]; omega) (by simp)).trans (by simp -dsimp -implicitDefEqProofs only [go_sem, Av, z2] <;> rfl)
 have le2 : g.le g2 := AV.toLe (p := none) ((AV.of ((CF (le_push (L1 _ _)) (by omega)))).trans on2) (fun b e => by cases e)
 refine zh ?_
 refine AJ [6, 11] (fun mm e h' => ∃ (out : List Int) (st : Int) (bv bw : Nat) (f2 : AQ), g.le h' ∧ n1 < bv ∧ n1 < bw ∧ bv ≠ bw ∧ hg h' (hn g .mk + 1) .mk = some ⟨4, [.raw (.int .i64 c.top), .raw (.int .i64 c.seed), .raw (.int .i64 c.new), .sl (F' 3) 1 (strs c.stops)]⟩ ∧ hg h' n1 .mk = some ⟨15, [.raw (.int .i64 m.dim), .raw (.int .i64 m.heads), .raw (.int .i64 m.context), .sl (F 3) 2 (AY m.merges), .sl (F 4) 1 (AE m.embed), .sl (F 5) 32 (Af m.layers), .sl (F 6) 1 (ints m.gainEnd), .raw (.int .i64 m.head.width), .sl (F 8) 1 (AE m.head.rows), .sl (F 9) 1 (AE m.head.scales), .raw (.int .i64 m.head.mul), .raw (.int .i64 m.head.shift), .sl (F 12) 1 (AE m.turns.cos), .sl (F 13) 1 (AE m.turns.sin), .raw (.pointer none)]⟩ ∧ look e 3 .mk = .raw (.int .u64 st) ∧ look e 12 .mk = .raw (.slice (some ⟨bv, 0, none⟩) (ts ++ out).length (ts ++ out).length) ∧ look e 13 .mk = .sl f2 1 (ints (Aw m (ts ++ out) (ts ++ out).length)) ∧ look e 14 .mk = .raw (.bool true) ∧ look e 15 .mk = .raw (.slice (some ⟨bw, 0, none⟩) out.length out.length) ∧ mm + out.length = c.new.toNat ∧ out.length < c.new.toNat ∧ Ca m c c.new.toNat ts s = (out ++ (Ca m c (c.new.toNat - out.length) (ts ++ out) st).1, (Ca m c (c.new.toNat - out.length) (ts ++ out) st).2) ∧ allI (ts ++ out) 0 (B2 m - 1) = true ∧ CO De 2 h' bv (AS m (ts ++ out) (ts ++ out).length) ∧ CO eN 1 h' bw out) c.new.toNat ?_ ?_
 ·have zq1 : (hn g .mk + 1 == hn g2 .mk) = false := Cw
  have zq2 : (n1 == hn g2 .mk) = false := Cw
  refine ⟨[], s, bv, hn g2 .mk, f2, ?_⟩
  refine ⟨le2.trans (le_push (H2.le.refl _)), by omega, by omega, ?_, by simp -dsimp -implicitDefEqProofs only [go_sem, cfg2, zq1] , ?_, AL, by simp -dsimp -implicitDefEqProofs only [go_sem, sQ1, List.append_nil], by simp -dsimp -implicitDefEqProofs only [go_sem, sQ1, List.append_nil] , AL, AL, by simp only [List.length_nil]; omega, by simp only [List.length_nil]; omega, ?_, by rw [List.append_nil]; exact t3, ?_, ?_⟩
  ·have := rv.1; omega
  ·exact (by simp -dsimp -implicitDefEqProofs only [go_sem, zq2]; exact row2)
  ·simp only [List.append_nil, List.length_nil, Nat.sub_zero, List.nil_append]
  ·rw [List.append_nil]; exact rv.keep (by rw [AB]; omega) (by have := rv.1; rw [Ap, show (bv == hn g2 .mk) = false by simp; omega, FB])
  ·exact ⟨by rw [AB]; omega, [], by simp -dsimp -implicitDefEqProofs only [go_sem, Av], .nil⟩
 rintro mm e h' hks ⟨out, st, bv', bw, f3, leL, hbv', hbw, hne, rowC, rowR, e3, e12, e13, e14, e15, hm, hlt, hgen, hall, rv', rw'⟩
 simp -dsimp -implicitDefEqProofs only [go_sem, sQ1] at hks
 have nnL := leL.1
 have hv1 := rv'.1
 have hw1 := rw'.1
 have q1 : (out.length : Int) < c.new := by omega
 have ll := Mp (ts := ts ++ out) ht (by rw [List.length_append]; omega)
 obtain ⟨k0, k1, k2⟩ := KO (c := c) (s := st) (ts := ts ++ out) ht hcfg (by rw [List.length_append]; omega)
 refine UK hks e3 e12 e13 e14 e15 rowC q1 ?_
 refine AD (Mz (F := F') (f := f3) (c := c) (s := st) (zs := Aw m (ts ++ out) (ts ++ out).length) hn0 (by omega)) ?_
 rintro _ n4 hn4 rfl
 unfold U0
 rw [k0]
 generalize hx : (Ax c st (Aw m (ts ++ out) (ts ++ out).length)).1 = x at k1 k2 ⊢
 generalize hs' : (Ax c st (Aw m (ts ++ out) (ts ++ out).length)).2.1 = st' at ⊢
 by_cases hx0 : x = 0
 ·have d1 := decide_eq_true hx0
  refine A1 d1 ?_
  have e := Pz hgen hlt (by rw [hx]; exact hx0)
  rw [hs'] at e
  rw [e]
  obtain ⟨bs, ot, bl⟩ := ((rw'.keep (g' := h'.up n4) hn4 rfl).ownI (N := hn g .mk) (by omega) rfl).tree
  exact ⟨AK leL hn4, bs, ⟨_, rfl, ot⟩, bl⟩
 have d1 := decide_eq_false hx0
 refine A1 d1 ?_
 refine M3 (P := Tryz.prog) (e := eN) (a := x) fH Go.Ai.ty_el25 Go.Ai.ty_zr3 rfl Go.Ai.ty_cl25 (by omega) (rw'.keep (g' := h'.up n4) hn4 rfl) rfl (by omega) ?_
 intro g5 rw5 nn5 fr5
 rw [AF] at nn5
 have rowC5 := (fr5 (hn g .mk + 1) (by rw [AF]; omega) (by omega)).trans rowC
 have rowR5 := (fr5 n1 (by rw [AF]; omega) (by omega)).trans rowR
 have rv5 : CO De 2 g5 bv' _ := rv'.keep (by omega) (fr5 bv' (by rw [AF]; omega) hne)
 have le5 : g.le g5 := ⟨by have := leL.1; omega, fun c hc => (fr5 c (by rw [AF]; omega) (by omega)).trans (leL.2 c hc)⟩
 have est := Nj hgen hlt hx0 hx hs'
 have hlen : (out ++ [x]).length = out.length + 1 := by rw [List.length_append, List.length_singleton]
 by_cases hq : ((out.length + 1 : Nat) : Int) = c.new
 ·have d2 := decide_eq_true hq
  refine C5 rowC5 d2 ?_
  rw [QA est (by omega)]
  obtain ⟨bs, ot, bl⟩ := (rw5.ownI (N := hn g .mk) (by rw [AF]; omega) hlen.symm).tree
  exact ⟨le5, bs, ⟨_, rfl, ot⟩, bl⟩
 have d2 := decide_eq_false hq
 obtain ⟨k, rfl⟩ := Int.eq_ofNat_of_zero_le k1
 have hpast := It (ts := ts ++ out) ht (n := (ts ++ out).length) (Nat.le_refl _) (fun j hj => (Jh ht hall hj).2)
 have zq3 : (n1 == hn g5 .mk) = false := Cw
 have zq4 : (bv' == hn g5 .mk) = false := Cw
 refine Cu rowC5 d2 rowR5 zq3 ?_
 have rv6 : CO De 2 (g5.push ⟨2, [.raw (.slice none 0 0), .raw (.slice none 0 0)]⟩) bv' _ := rv5.keep (by rw [AB]; omega) (by rw [Ap, zq4, FB])
 obtain ⟨cs6, ow6, hc6⟩ := rv6.own (N := 0) (Nat.zero_le _)
 rw [BO] at ow6
 obtain ⟨f6, hf6⟩ := Gf M9 (p := fun c => (none : Option Nat) ≠ some c) (by rw [BO]; exact ow6) hc6 (fun b hb e => by cases e)
 refine AD (PM.lend (p := none) (r0 := 0) (s0 := 0) (.cons (EI (xs := Gx F m (.pointer none)) rfl) (.cons hf6 (.cons .raw .nil))) Mt.none (NG (F := F) (p := none) (r := 0) (s := 0) (past := AS m (ts ++ out) (ts ++ out).length) (t := k) Mt.none ht hpast (by rw [BO, List.length_append]; omega) (by have := ht.emb; omega) hs.2.1.1) (fun y hy => by have := hy.2; rwa [CW] at this)) ?_
 rintro _ n7 hn7 ⟨⟨F7, f7, rfl⟩, _⟩
 rw [AB] at hn7
 refine zh ?_
 have rv7 : CO De 2 (((g5.push ⟨2, [.raw (.slice none 0 0), .raw (.slice none 0 0)]⟩).up n7).set (hn g5 .mk) ⟨2, [.sl (F7 0) 1 (An (Bb m (AS m (ts ++ out) (ts ++ out).length) k).keys), .sl (F7 1) 1 (An (Bb m (AS m (ts ++ out) (ts ++ out).length) k).values)]⟩) bv' _ := rv6.keep (by simp only [AG, AF, AB]; omega) (by rw [BA, zq4, FB, Ti])
 refine M3 (P := Tryz.prog) (e := De) (a := Bb m (AS m (ts ++ out) (ts ++ out).length) k) M9 Go.Ai.ty_el47 Go.Ai.ty_zr37 rfl Go.Ai.ty_cl47 (by omega) rv7 (by rw [BO]) (by rw [BO, List.length_append]; omega) ?_
 intro g8 rv8 nn8 fr8
 simp only [AG, AF] at nn8 fr8 rv8
 have fr9 : ∀ c, c < hn g5 .mk → c ≠ bv' → hg g8 c .mk = hg g5 c .mk := fun c h1 h2 => (fr8 c (by omega) h2).trans (by rw [BA, show (c == hn g5 .mk) = false by simp; omega, FB, Ti, Ap, show (c == hn g5 .mk) = false by simp; omega, FB])
 have rowC8 := (fr9 (hn g .mk + 1) (by omega) (by omega)).trans rowC5
 have rowR8 := (fr9 n1 (by omega) (by omega)).trans rowR5
 have le8 : g.le g8 := ⟨by omega, fun c hc => (fr9 c (by omega) (by omega)).trans (le5.2 c hc)⟩
 have rw8 : CO eN 1 g8 _ _ := rw5.keep (by omega) (fr9 _ (by rw [AF]; omega) (by rw [AF]; omega))
 have ef : AS m (ts ++ (out ++ [(k : Int)])) (ts ++ (out ++ [(k : Int)])).length = AS m (ts ++ out) (ts ++ out).length ++ [Bb m (AS m (ts ++ out) (ts ++ out).length) k] := by rw [← List.append_assoc, Lv, Int.toNat_natCast]
 have el : Aw m (ts ++ (out ++ [(k : Int)])) (ts ++ (out ++ [(k : Int)])).length = Bn m (AS m (ts ++ out) (ts ++ out).length) k := by rw [← List.append_assoc, MC, Int.toNat_natCast]
 have el2 : (ts ++ (out ++ [(k : Int)])).length = (ts ++ out).length + 1 := by rw [← List.append_assoc, List.length_append, List.length_singleton]
 rw [← ef] at rv8
 refine zh ?_
 refine AI (mm - 1) (by omega) AL ⟨out ++ [(k : Int)], st', n7 + 1, _, f7, le8, by omega, by rw [AF]; omega, by rw [AF]; omega, rowC8, rowR8, AL, by simp -dsimp -implicitDefEqProofs only [go_sem, el2], by simp -dsimp -implicitDefEqProofs only [go_sem, sQ1, el], AL, by simp -dsimp -implicitDefEqProofs only [go_sem, sQ1, hlen, AF], by omega, by omega, est, by rw [← List.append_assoc]; exact Ny hall (by omega) (by omega), rv8, rw8⟩
end Go.Bi
end
