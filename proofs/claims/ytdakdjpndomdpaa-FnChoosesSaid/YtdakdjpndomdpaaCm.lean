/- The walk of the reference's ChanceOf. -/
import Derived.Test.YtdakdjpndomdpaaCl
set_option linter.unusedSimpArgs false
set_option linter.unusedVariables false
set_option maxRecDepth 20000
namespace Go.Ai
open Go.Proofs
variable {W0 : World}
theorem specChanceOf_ok {a a' : Option Addr} {n c n' c' : Nat} {lo top : List Int} {h : Heap} (r : Row1 h a n (lo.map (.int .i64))) (r' : Row1 h a' n' (top.map (.int .i64))) (hn0 : n ≤ 1048576) (hn1 : n' ≤ 1048576) :
    WC Try.prog W0 26 [.slice a n c, .slice a' n' c'] h (fun v h' => (∃ m, Own (hn h .mk) h' v 1 m ((chanceI lo top).map (.int .i64))) ∧ h.le h') := by
  have hlen : n = lo.length := by have := r.1; simpa using this
  have hlen' : n' = top.length := by have := r'.1; simpa using this
  have hwn : IntKind.i64.wrap (n - 1) = (lo.length : Int) - 1 := by rw [wrap_i64] <;> omega
  have hoo : ∀ x : Nat, (x == x) = true := by simp
  refine start (P := Try.prog) [[0, 1], [0, 1], [0, 1, 5], [0, 1, 5, 6], [0, 1, 5, 6], [0, 1, 5, 6], [], [0, 1, 5], [0, 1, 5, 7], [0, 1, 5, 7], [0, 1, 5, 7], [0, 1, 5, 7, 8], [0, 1, 5, 7], [0, 1, 5, 7, 8], [5]] (by kernel_rfl) Try.func26 rfl (by decide) (by decide +kernel) (rs := [.tmp 4]) rfl rfl (Nat.le_of_ble_eq_true rfl) ?_
  repeat (first | rw [kz_o] | rw [kz_r0] | simp -dsimp -implicitDefEqProofs only [go_sem, ↓reduceIte, Nat.reduceEqDiff, Nat.reduceBEq, and_self, decide_true, decide_false, Bool.not_true, Bool.not_false, ne_eq, not_false_eq_true, Nat.reduceAdd, Nat.reduceLeDiff, Nat.reduceMul, Nat.zero_add, Nat.add_zero, Nat.mul_one, Int.reduceLE, Int.reduceLT, Int.reduceBEq])
  have ownN : ∀ h2 : Heap, h.le h2 → Own (hn h .mk) (h2.push ⟨true, 1, []⟩) (.slice (some ⟨hn h2 .mk, 0, none⟩) 0 0) 1 0 [] := by
    intro h2 l2
    exact ⟨rfl, _, _, rfl, .inr ⟨hn h2 .mk, rfl, l2.n, by simp -dsimp -implicitDefEqProofs only [go_sem, ↓reduceIte, Nat.reduceEqDiff, Nat.reduceBEq, and_self, decide_true, decide_false, Bool.not_true, Bool.not_false, ne_eq, not_false_eq_true, Nat.reduceAdd, Nat.reduceLeDiff, Nat.reduceMul, Nat.zero_add, Nat.add_zero, Nat.mul_one, Int.reduceLE, Int.reduceLT, Int.reduceBEq], by simp -dsimp -implicitDefEqProofs only [go_sem, ↓reduceIte, Nat.reduceEqDiff, Nat.reduceBEq, and_self, decide_true, decide_false, Bool.not_true, Bool.not_false, ne_eq, not_false_eq_true, Nat.reduceAdd, Nat.reduceLeDiff, Nat.reduceMul, Nat.zero_add, Nat.add_zero, Nat.mul_one, Int.reduceLE, Int.reduceLT, Int.reduceBEq, hoo]⟩⟩
  refine lz_intro (fun k e h' => h.le h' ∧ look e 0 .mk = .slice a n c ∧ look e 1 .mk = .slice a' n' c' ∧ ∃ (i : Int) (v : Value), look e 6 .mk = .int .i64 i ∧ look e 5 .mk = v ∧ Own (hn h .mk) h' v 1 0 [] ∧ 0 ≤ i ∧ (k : Int) + i = n' ∧ ∀ j : Nat, (j : Int) < i → inI (top.getD j 0) 0 ((lo.length : Int) - 1) = true) n' ?_ ?_
  · refine ⟨Heap.le_push _ _, ?_, ?_, 0, .slice (some ⟨hn h .mk, 0, none⟩) 0 0, ?_, ?_, ownN h (Heap.le_refl h), by omega, by omega, fun j hj => by omega⟩ <;> simp -dsimp -implicitDefEqProofs only [go_sem, ↓reduceIte, Nat.reduceEqDiff, Nat.reduceBEq, and_self, decide_true, decide_false, Bool.not_true, Bool.not_false, ne_eq, not_false_eq_true, Nat.reduceAdd, Nat.reduceLeDiff, Nat.reduceMul, Nat.zero_add, Nat.add_zero, Nat.mul_one, Int.reduceLE, Int.reduceLT, Int.reduceBEq]
  · rintro k e h' ⟨l2, e0, e1, i, v, e6, e5, ho, hi, hk, hpre⟩
    repeat (first | rw [kz_o] | rw [kz_r0] | simp -dsimp -implicitDefEqProofs only [go_sem, ↓reduceIte, Nat.reduceEqDiff, Nat.reduceBEq, and_self, decide_true, decide_false, Bool.not_true, Bool.not_false, ne_eq, not_false_eq_true, Nat.reduceAdd, Nat.reduceLeDiff, Nat.reduceMul, Nat.zero_add, Nat.add_zero, Nat.mul_one, Int.reduceLE, Int.reduceLT, Int.reduceBEq, e0, e1, e5, e6])
    refine gz_dec (fun h2 => ?_) (fun h2 => ?_)
    · obtain ⟨b1, off1, w1, z1, cs1, rfl, hb1, hlt1, hy1⟩ := (r'.mono l2).int (i := i) ⟨hi, h2⟩
      have hi2 : 0 ≤ i ∧ i < (n' : Int) := ⟨hi, h2⟩
      repeat (first | rw [kz_o] | rw [kz_r0] | simp -dsimp -implicitDefEqProofs only [go_sem, ↓reduceIte, Nat.reduceEqDiff, Nat.reduceBEq, and_self, decide_true, decide_false, Bool.not_true, Bool.not_false, ne_eq, not_false_eq_true, Nat.reduceAdd, Nat.reduceLeDiff, Nat.reduceMul, Nat.zero_add, Nat.add_zero, Nat.mul_one, Int.reduceLE, Int.reduceLT, Int.reduceBEq, e0, e1, e5, e6, hi2, hb1, hy1, hwn])
      refine wz_intro l01In_ok ?_
      rintro _ h' ⟨rfl, rfl⟩
      cases hin : inI (top.getD i.toNat 0) 0 ((lo.length : Int) - 1)
      · repeat (first | rw [kz_o] | rw [kz_r0] | simp -dsimp -implicitDefEqProofs only [go_sem, ↓reduceIte, Nat.reduceEqDiff, Nat.reduceBEq, and_self, decide_true, decide_false, Bool.not_true, Bool.not_false, ne_eq, not_false_eq_true, Nat.reduceAdd, Nat.reduceLeDiff, Nat.reduceMul, Nat.zero_add, Nat.add_zero, Nat.mul_one, Int.reduceLE, Int.reduceLT, Int.reduceBEq])
        refine ⟨⟨0, ?_⟩, le_push l2⟩
        have hno : ¬ (top.all fun s => inI s 0 ((lo.length : Int) - 1)) = true := by
          intro hh
          have hlt : i.toNat < top.length := by omega
          have := List.all_eq_true.1 hh top[i.toNat] (List.getElem_mem hlt)
          rw [List.getD_eq_getElem?_getD, List.getElem?_eq_getElem hlt] at hin
          rw [show (some top[i.toNat]).getD 0 = top[i.toNat] from rfl] at hin
          rw [hin] at this; cases this
        rw [chanceI, if_neg hno]
        exact ownN _ l2
      · repeat (first | rw [kz_o] | rw [kz_r0] | simp -dsimp -implicitDefEqProofs only [go_sem, ↓reduceIte, Nat.reduceEqDiff, Nat.reduceBEq, and_self, decide_true, decide_false, Bool.not_true, Bool.not_false, ne_eq, not_false_eq_true, Nat.reduceAdd, Nat.reduceLeDiff, Nat.reduceMul, Nat.zero_add, Nat.add_zero, Nat.mul_one, Int.reduceLE, Int.reduceLT, Int.reduceBEq])
        have hw : IntKind.i64.wrap (i + 1) = i + 1 := by rw [wrap_i64] <;> omega
        refine ⟨k - 1, by omega, l2, ?_, ?_, i + 1, v, ?_, ?_, ho, by omega, by omega, ?_⟩
        · simp -dsimp -implicitDefEqProofs only [go_sem, ↓reduceIte, Nat.reduceEqDiff, Nat.reduceBEq, and_self, decide_true, decide_false, Bool.not_true, Bool.not_false, ne_eq, not_false_eq_true, Nat.reduceAdd, Nat.reduceLeDiff, Nat.reduceMul, Nat.zero_add, Nat.add_zero, Nat.mul_one, Int.reduceLE, Int.reduceLT, Int.reduceBEq]
        · simp -dsimp -implicitDefEqProofs only [go_sem, ↓reduceIte, Nat.reduceEqDiff, Nat.reduceBEq, and_self, decide_true, decide_false, Bool.not_true, Bool.not_false, ne_eq, not_false_eq_true, Nat.reduceAdd, Nat.reduceLeDiff, Nat.reduceMul, Nat.zero_add, Nat.add_zero, Nat.mul_one, Int.reduceLE, Int.reduceLT, Int.reduceBEq]
        · simp -dsimp -implicitDefEqProofs only [go_sem, ↓reduceIte, Nat.reduceEqDiff, Nat.reduceBEq, and_self, decide_true, decide_false, Bool.not_true, Bool.not_false, ne_eq, not_false_eq_true, Nat.reduceAdd, Nat.reduceLeDiff, Nat.reduceMul, Nat.zero_add, Nat.add_zero, Nat.mul_one, Int.reduceLE, Int.reduceLT, Int.reduceBEq, hw]
        · simp -dsimp -implicitDefEqProofs only [go_sem, ↓reduceIte, Nat.reduceEqDiff, Nat.reduceBEq, and_self, decide_true, decide_false, Bool.not_true, Bool.not_false, ne_eq, not_false_eq_true, Nat.reduceAdd, Nat.reduceLeDiff, Nat.reduceMul, Nat.zero_add, Nat.add_zero, Nat.mul_one, Int.reduceLE, Int.reduceLT, Int.reduceBEq]
        · intro j hj
          by_cases hji : j = i.toNat
          · subst hji; exact hin
          · exact hpre j (by omega)
    · repeat (first | rw [kz_o] | rw [kz_r0] | simp -dsimp -implicitDefEqProofs only [go_sem, ↓reduceIte, Nat.reduceEqDiff, Nat.reduceBEq, and_self, decide_true, decide_false, Bool.not_true, Bool.not_false, ne_eq, not_false_eq_true, Nat.reduceAdd, Nat.reduceLeDiff, Nat.reduceMul, Nat.zero_add, Nat.add_zero, Nat.mul_one, Int.reduceLE, Int.reduceLT, Int.reduceBEq, e0, e1, e5, e6])
      have hall : (top.all fun s => inI s 0 ((lo.length : Int) - 1)) = true := by
        rw [List.all_eq_true]
        intro x hx
        obtain ⟨j, hj, rfl⟩ := List.getElem_of_mem hx
        have := hpre j (by omega)
        rw [List.getD_eq_getElem?_getD, List.getElem?_eq_getElem hj] at this
        exact this
      have hch : chanceI lo top = top.map (chance1 lo (top.getD 0 0)) := by rw [chanceI, if_pos hall]
      have hin : ∀ i : Nat, i < top.length → 0 ≤ top.getD i 0 ∧ top.getD i 0 < (n : Int) := by
        intro i hi
        have := hpre i (by omega)
        simp only [inI, Bool.and_eq_true, decide_eq_true_eq] at this
        omega
      clear hpre hi hk e0 e1 e5 e6 h2
      refine lz_intro (fun k e h' => look e 0 .mk = .slice a n c ∧ look e 1 .mk = .slice a' n' c' ∧ h.le h' ∧ hn h .mk ≤ hn h' .mk ∧ ∃ (i : Int) (v : Value), look e 7 .mk = .int .i64 i ∧ look e 5 .mk = v ∧ 0 ≤ i ∧ (k : Int) + i = n' ∧ Own (hn h .mk) h' v 1 i.toNat (((top.map (chance1 lo (top.getD 0 0))).take i.toNat).map (.int .i64))) n' ?_ ?_
      · refine ⟨?_, ?_, l2, l2.n, 0, v, ?_, ?_, by omega, by omega, ?_⟩
        · simp -dsimp -implicitDefEqProofs only [go_sem, ↓reduceIte, Nat.reduceEqDiff, Nat.reduceBEq, and_self, decide_true, decide_false, Bool.not_true, Bool.not_false, ne_eq, not_false_eq_true, Nat.reduceAdd, Nat.reduceLeDiff, Nat.reduceMul, Nat.zero_add, Nat.add_zero, Nat.mul_one, Int.reduceLE, Int.reduceLT, Int.reduceBEq]
        · simp -dsimp -implicitDefEqProofs only [go_sem, ↓reduceIte, Nat.reduceEqDiff, Nat.reduceBEq, and_self, decide_true, decide_false, Bool.not_true, Bool.not_false, ne_eq, not_false_eq_true, Nat.reduceAdd, Nat.reduceLeDiff, Nat.reduceMul, Nat.zero_add, Nat.add_zero, Nat.mul_one, Int.reduceLE, Int.reduceLT, Int.reduceBEq]
        · simp -dsimp -implicitDefEqProofs only [go_sem, ↓reduceIte, Nat.reduceEqDiff, Nat.reduceBEq, and_self, decide_true, decide_false, Bool.not_true, Bool.not_false, ne_eq, not_false_eq_true, Nat.reduceAdd, Nat.reduceLeDiff, Nat.reduceMul, Nat.zero_add, Nat.add_zero, Nat.mul_one, Int.reduceLE, Int.reduceLT, Int.reduceBEq]
        · simp -dsimp -implicitDefEqProofs only [go_sem, ↓reduceIte, Nat.reduceEqDiff, Nat.reduceBEq, and_self, decide_true, decide_false, Bool.not_true, Bool.not_false, ne_eq, not_false_eq_true, Nat.reduceAdd, Nat.reduceLeDiff, Nat.reduceMul, Nat.zero_add, Nat.add_zero, Nat.mul_one, Int.reduceLE, Int.reduceLT, Int.reduceBEq]
        · exact ho
      · rintro k e h' ⟨e0, e1, l2, hN, i, v, e7, e5, hi, hk, ho⟩
        repeat (first | rw [kz_o] | rw [kz_r0] | simp -dsimp -implicitDefEqProofs only [go_sem, ↓reduceIte, Nat.reduceEqDiff, Nat.reduceBEq, and_self, decide_true, decide_false, Bool.not_true, Bool.not_false, ne_eq, not_false_eq_true, Nat.reduceAdd, Nat.reduceLeDiff, Nat.reduceMul, Nat.zero_add, Nat.add_zero, Nat.mul_one, Int.reduceLE, Int.reduceLT, Int.reduceBEq, e0, e1, e7, e5])
        refine gz_dec (fun h2 => ?_) (fun h2 => ?_)
        · obtain ⟨b1, off1, w1, z1, cs1, rfl, hb1, hlt1, hy1⟩ := (r'.mono l2).int (i := i) ⟨hi, h2⟩
          have hi2 : 0 ≤ i ∧ i < (n' : Int) := ⟨hi, h2⟩
          have hz2 : (0 : Int) ≤ 0 ∧ (0 : Int) < (n' : Int) := ⟨by omega, by omega⟩
          have hv2 : 0 ≤ top.getD i.toNat 0 ∧ top.getD i.toNat 0 < (n : Int) := hin _ (by omega)
          have hv3 : 0 ≤ top.getD 0 0 ∧ top.getD 0 0 < (n : Int) := hin _ (by omega)
          obtain ⟨b2, off2, w2, z2, cs2, e2, hb2, hlt2, hy2⟩ := (r'.mono l2).int (i := 0) hz2
          cases e2
          rw [hb1] at hb2
          cases hb2
          simp only [Int.toNat_zero, Nat.add_zero] at hy2
          obtain ⟨b3, off3, w3, z3, cs3, rfl, hb3, hlt3, hy3⟩ := (r.mono l2).int hv2
          obtain ⟨b4, off4, w4, z4, cs4, e4, hb4, hlt4, hy4⟩ := (r.mono l2).int hv3
          cases e4
          rw [hb3] at hb4
          cases hb4
          repeat (first | rw [kz_o] | rw [kz_r0] | simp -dsimp -implicitDefEqProofs only [go_sem, ↓reduceIte, Nat.reduceEqDiff, Nat.reduceBEq, and_self, decide_true, decide_false, Bool.not_true, Bool.not_false, ne_eq, not_false_eq_true, Nat.reduceAdd, Nat.reduceLeDiff, Nat.reduceMul, Nat.zero_add, Nat.add_zero, Nat.mul_one, Int.reduceLE, Int.reduceLT, Int.reduceBEq, e0, e1, e7, e5])
          refine dq_intro [(0, []), (1, []), (2, []), (3, []), (4, []), (5, []), (6, []), (7, []), (8, []), (9, []), (10, []), (11, []), (12, []), (13, []), (14, []), (15, [])] (by kernel_rfl) ?_
          repeat (first | rw [kz_o] | rw [kz_r0] | simp -dsimp -implicitDefEqProofs only [go_sem, ↓reduceIte, Nat.reduceEqDiff, Nat.reduceBEq, and_self, decide_true, decide_false, Bool.not_true, Bool.not_false, ne_eq, not_false_eq_true, Nat.reduceAdd, Nat.reduceLeDiff, Nat.reduceMul, Nat.zero_add, Nat.add_zero, Nat.mul_one, Int.reduceLE, Int.reduceLT, Int.reduceBEq, e0, e1, e7, e5, hi2, hz2, hv2, hv3, hb1, hy1, hy2, hb3, hy3, hy4, Int.toNat_zero])
          refine wz_intro specFloorDiv_ok ?_
          rintro _ h' ⟨rfl, rfl⟩
          repeat (first | rw [kz_o] | rw [kz_r0] | simp -dsimp -implicitDefEqProofs only [go_sem, ↓reduceIte, Nat.reduceEqDiff, Nat.reduceBEq, and_self, decide_true, decide_false, Bool.not_true, Bool.not_false, ne_eq, not_false_eq_true, Nat.reduceAdd, Nat.reduceLeDiff, Nat.reduceMul, Nat.zero_add, Nat.add_zero, Nat.mul_one, Int.reduceLE, Int.reduceLT, Int.reduceBEq])
          have hmx : ∀ y : Int, y < -1400 → mxI (-1400) y = -1400 := fun y hy => by unfold mxI; rw [if_neg (by omega)]
          have hmx2 : ∀ y : Int, ¬ y < -1400 → mxI (-1400) y = y := fun y hy => by unfold mxI; split <;> omega
          have hw : IntKind.i64.wrap (i + 1) = i + 1 := by rw [wrap_i64] <;> omega
          have hin2 : i.toNat < (top.map (chance1 lo (top.getD 0 0))).length := by simp; omega
          have he1 : (top.map (chance1 lo (top.getD 0 0)))[i.toNat] = expI (mxI (-1400) (floorI (IntKind.i64.wrap (lo.getD (top.getD i.toNat 0).toNat 0 - lo.getD (top.getD 0 0).toNat 0)) 64)) := by
            have hg1 : top.getD i.toNat 0 = top[i.toNat]'(by omega) := by
              rw [List.getD_eq_getElem?_getD, List.getElem?_eq_getElem (show i.toNat < top.length by omega)]; rfl
            simp only [List.getElem_map, chance1, hg1]
          have done : ∀ (v' : Value) (h7 : Heap), Own (hn h .mk) h7 v' 1 (i.toNat + 1) (((top.map (chance1 lo (top.getD 0 0))).take i.toNat).map (.int .i64) ++ [.int .i64 (expI (mxI (-1400) (floorI (IntKind.i64.wrap (lo.getD (top.getD i.toNat 0).toNat 0 - lo.getD (top.getD 0 0).toNat 0)) 64)))]) →
              Own (hn h .mk) h7 v' 1 (i + 1).toNat (((top.map (chance1 lo (top.getD 0 0))).take (i + 1).toNat).map (.int .i64)) := by
            intro v' h7 ho7
            rw [show (i + 1).toNat = i.toNat + 1 by omega, List.take_succ_eq_append_getElem hin2, List.map_append, List.map_cons, List.map_nil, he1]
            exact ho7
          refine gz_dec (fun h3 => ?_) (fun h3 => ?_)
          · rw [hmx _ h3] at done
            repeat (first | rw [kz_o] | rw [kz_r0] | simp -dsimp -implicitDefEqProofs only [go_sem, ↓reduceIte, Nat.reduceEqDiff, Nat.reduceBEq, and_self, decide_true, decide_false, Bool.not_true, Bool.not_false, ne_eq, not_false_eq_true, Nat.reduceAdd, Nat.reduceLeDiff, Nat.reduceMul, Nat.zero_add, Nat.add_zero, Nat.mul_one, Int.reduceLE, Int.reduceLT, Int.reduceBEq])
            refine wz_intro specExp_ok ?_
            rintro _ h' ⟨rfl, rfl⟩
            repeat (first | rw [kz_o] | rw [kz_r0] | simp -dsimp -implicitDefEqProofs only [go_sem, ↓reduceIte, Nat.reduceEqDiff, Nat.reduceBEq, and_self, decide_true, decide_false, Bool.not_true, Bool.not_false, ne_eq, not_false_eq_true, Nat.reduceAdd, Nat.reduceLeDiff, Nat.reduceMul, Nat.zero_add, Nat.add_zero, Nat.mul_one, Int.reduceLE, Int.reduceLT, Int.reduceBEq, e5, hoo])
            refine append_push (N := hn h .mk) (z := 0) (n := i.toNat) ty_el40 ty_zr3 rfl ty_cl40 ho hN (by have : most = 1099511627776 := rfl; omega) rfl rfl ?_
            intro v' h7 ho7 hn7 hle7 hk7
            repeat (first | rw [kz_o] | rw [kz_r0] | simp -dsimp -implicitDefEqProofs only [go_sem, ↓reduceIte, Nat.reduceEqDiff, Nat.reduceBEq, and_self, decide_true, decide_false, Bool.not_true, Bool.not_false, ne_eq, not_false_eq_true, Nat.reduceAdd, Nat.reduceLeDiff, Nat.reduceMul, Nat.zero_add, Nat.add_zero, Nat.mul_one, Int.reduceLE, Int.reduceLT, Int.reduceBEq])
            refine ⟨k - 1, by omega, ?_, ?_, hle7 h (Nat.le_refl _) l2, by omega, i + 1, v', ?_, ?_, by omega, by omega, done v' h7 ho7⟩
            · simp -dsimp -implicitDefEqProofs only [go_sem, ↓reduceIte, Nat.reduceEqDiff, Nat.reduceBEq, and_self, decide_true, decide_false, Bool.not_true, Bool.not_false, ne_eq, not_false_eq_true, Nat.reduceAdd, Nat.reduceLeDiff, Nat.reduceMul, Nat.zero_add, Nat.add_zero, Nat.mul_one, Int.reduceLE, Int.reduceLT, Int.reduceBEq]
            · simp -dsimp -implicitDefEqProofs only [go_sem, ↓reduceIte, Nat.reduceEqDiff, Nat.reduceBEq, and_self, decide_true, decide_false, Bool.not_true, Bool.not_false, ne_eq, not_false_eq_true, Nat.reduceAdd, Nat.reduceLeDiff, Nat.reduceMul, Nat.zero_add, Nat.add_zero, Nat.mul_one, Int.reduceLE, Int.reduceLT, Int.reduceBEq]
            · simp -dsimp -implicitDefEqProofs only [go_sem, ↓reduceIte, Nat.reduceEqDiff, Nat.reduceBEq, and_self, decide_true, decide_false, Bool.not_true, Bool.not_false, ne_eq, not_false_eq_true, Nat.reduceAdd, Nat.reduceLeDiff, Nat.reduceMul, Nat.zero_add, Nat.add_zero, Nat.mul_one, Int.reduceLE, Int.reduceLT, Int.reduceBEq, hw]
            · simp -dsimp -implicitDefEqProofs only [go_sem, ↓reduceIte, Nat.reduceEqDiff, Nat.reduceBEq, and_self, decide_true, decide_false, Bool.not_true, Bool.not_false, ne_eq, not_false_eq_true, Nat.reduceAdd, Nat.reduceLeDiff, Nat.reduceMul, Nat.zero_add, Nat.add_zero, Nat.mul_one, Int.reduceLE, Int.reduceLT, Int.reduceBEq]
          · rw [hmx2 _ h3] at done
            repeat (first | rw [kz_o] | rw [kz_r0] | simp -dsimp -implicitDefEqProofs only [go_sem, ↓reduceIte, Nat.reduceEqDiff, Nat.reduceBEq, and_self, decide_true, decide_false, Bool.not_true, Bool.not_false, ne_eq, not_false_eq_true, Nat.reduceAdd, Nat.reduceLeDiff, Nat.reduceMul, Nat.zero_add, Nat.add_zero, Nat.mul_one, Int.reduceLE, Int.reduceLT, Int.reduceBEq])
            refine wz_intro specExp_ok ?_
            rintro _ h' ⟨rfl, rfl⟩
            repeat (first | rw [kz_o] | rw [kz_r0] | simp -dsimp -implicitDefEqProofs only [go_sem, ↓reduceIte, Nat.reduceEqDiff, Nat.reduceBEq, and_self, decide_true, decide_false, Bool.not_true, Bool.not_false, ne_eq, not_false_eq_true, Nat.reduceAdd, Nat.reduceLeDiff, Nat.reduceMul, Nat.zero_add, Nat.add_zero, Nat.mul_one, Int.reduceLE, Int.reduceLT, Int.reduceBEq, e5, hoo])
            refine append_push (N := hn h .mk) (z := 0) (n := i.toNat) ty_el40 ty_zr3 rfl ty_cl40 ho hN (by have : most = 1099511627776 := rfl; omega) rfl rfl ?_
            intro v' h7 ho7 hn7 hle7 hk7
            repeat (first | rw [kz_o] | rw [kz_r0] | simp -dsimp -implicitDefEqProofs only [go_sem, ↓reduceIte, Nat.reduceEqDiff, Nat.reduceBEq, and_self, decide_true, decide_false, Bool.not_true, Bool.not_false, ne_eq, not_false_eq_true, Nat.reduceAdd, Nat.reduceLeDiff, Nat.reduceMul, Nat.zero_add, Nat.add_zero, Nat.mul_one, Int.reduceLE, Int.reduceLT, Int.reduceBEq])
            refine ⟨k - 1, by omega, ?_, ?_, hle7 h (Nat.le_refl _) l2, by omega, i + 1, v', ?_, ?_, by omega, by omega, done v' h7 ho7⟩
            · simp -dsimp -implicitDefEqProofs only [go_sem, ↓reduceIte, Nat.reduceEqDiff, Nat.reduceBEq, and_self, decide_true, decide_false, Bool.not_true, Bool.not_false, ne_eq, not_false_eq_true, Nat.reduceAdd, Nat.reduceLeDiff, Nat.reduceMul, Nat.zero_add, Nat.add_zero, Nat.mul_one, Int.reduceLE, Int.reduceLT, Int.reduceBEq]
            · simp -dsimp -implicitDefEqProofs only [go_sem, ↓reduceIte, Nat.reduceEqDiff, Nat.reduceBEq, and_self, decide_true, decide_false, Bool.not_true, Bool.not_false, ne_eq, not_false_eq_true, Nat.reduceAdd, Nat.reduceLeDiff, Nat.reduceMul, Nat.zero_add, Nat.add_zero, Nat.mul_one, Int.reduceLE, Int.reduceLT, Int.reduceBEq]
            · simp -dsimp -implicitDefEqProofs only [go_sem, ↓reduceIte, Nat.reduceEqDiff, Nat.reduceBEq, and_self, decide_true, decide_false, Bool.not_true, Bool.not_false, ne_eq, not_false_eq_true, Nat.reduceAdd, Nat.reduceLeDiff, Nat.reduceMul, Nat.zero_add, Nat.add_zero, Nat.mul_one, Int.reduceLE, Int.reduceLT, Int.reduceBEq, hw]
            · simp -dsimp -implicitDefEqProofs only [go_sem, ↓reduceIte, Nat.reduceEqDiff, Nat.reduceBEq, and_self, decide_true, decide_false, Bool.not_true, Bool.not_false, ne_eq, not_false_eq_true, Nat.reduceAdd, Nat.reduceLeDiff, Nat.reduceMul, Nat.zero_add, Nat.add_zero, Nat.mul_one, Int.reduceLE, Int.reduceLT, Int.reduceBEq]
        · repeat (first | rw [kz_o] | rw [kz_r0] | simp -dsimp -implicitDefEqProofs only [go_sem, ↓reduceIte, Nat.reduceEqDiff, Nat.reduceBEq, and_self, decide_true, decide_false, Bool.not_true, Bool.not_false, ne_eq, not_false_eq_true, Nat.reduceAdd, Nat.reduceLeDiff, Nat.reduceMul, Nat.zero_add, Nat.add_zero, Nat.mul_one, Int.reduceLE, Int.reduceLT, Int.reduceBEq, e0, e1, e7, e5])
          refine ⟨⟨i.toNat, ?_⟩, l2⟩
          have hin : i.toNat = (top.map (chance1 lo (top.getD 0 0))).length := by simp; omega
          rw [show (top.map (chance1 lo (top.getD 0 0))).take i.toNat = top.map (chance1 lo (top.getD 0 0)) from List.take_of_length_le (by omega)] at ho
          rw [hch]
          exact ho
end Go.Ai
