/- Walks of both sides of ChanceOf. -/
import Derived.Test.YtdakdjpndomdpaaCk
set_option linter.unusedSimpArgs false
set_option linter.unusedVariables false
set_option maxRecDepth 20000
namespace Go.Ai
open Go.Proofs
variable {W0 : World}
def chance1 (lo : List Int) (f i : Int) : Int := expI (mxI (-1400) (floorI (IntKind.i64.wrap (lo.getD i.toNat 0 - lo.getD f.toNat 0)) 64))
def chanceI (lo top : List Int) : List Int := if (top.all fun s => inI s 0 (lo.length - 1)) = true then top.map (chance1 lo (top.getD 0 0)) else []

theorem Row1.int {h : Heap} {a : Option Addr} {n : Nat} {zs : List Int} (r : Row1 h a n (zs.map (.int .i64))) {i : Int} (hi : 0 ≤ i ∧ i < n) :
    ∃ b off w z cs, a = some ⟨b, off, none⟩ ∧ hg h b .mk = some ⟨w, z, cs⟩ ∧ b < hn h .mk ∧ cs[off + i.toNat]? = some (.int .i64 (zs.getD i.toNat 0)) := by
  have hlen := r.1
  simp at hlen
  obtain ⟨b, off, w, z, cs, h1, h2, h3, h4⟩ := r.2 i.toNat (by omega)
  refine ⟨b, off, w, z, cs, h1, h2, h3, ?_⟩
  rw [h4, List.getElem?_map, List.getD_eq_getElem?_getD, List.getElem?_eq_getElem (show i.toNat < zs.length by omega)]
  rfl

theorem implChanceOf_ok {a a' : Option Addr} {n c n' c' : Nat} {lo top : List Int} {h : Heap} (r : Row1 h a n (lo.map (.int .i64))) (r' : Row1 h a' n' (top.map (.int .i64))) (hn0 : n ≤ 1048576) (hn1 : n' ≤ 1048576) :
    WC Try.prog W0 28 [.slice a n c, .slice a' n' c'] h (fun v h' => (∃ m, Own (hn h .mk) h' v 1 m ((chanceI lo top).map (.int .i64))) ∧ h.le h') := by
  have hlen : n = lo.length := by have := r.1; simpa using this
  have hlen' : n' = top.length := by have := r'.1; simpa using this
  have hwn : IntKind.i64.wrap (n - 1) = (lo.length : Int) - 1 := by rw [wrap_i64] <;> omega
  refine start (P := Try.prog) [[0, 1], [0, 1], [], [0, 1], [0, 1, 5], [0, 1, 5, 15, 16, 17], [0, 1, 5, 15, 16, 17], [0, 1, 5, 7, 15, 16, 17], [0, 1, 5, 15, 16, 17], [5]] (by kernel_rfl) Try.func28 rfl (by decide) (by decide +kernel) (rs := [.tmp 4]) rfl rfl (Nat.le_of_ble_eq_true rfl) ?_
  repeat (first | rw [kz_o] | rw [kz_r0] | simp -dsimp -implicitDefEqProofs only [go_sem, ↓reduceIte, Nat.reduceEqDiff, Nat.reduceBEq, and_self, decide_true, decide_false, Bool.not_true, Bool.not_false, ne_eq, not_false_eq_true, Nat.reduceAdd, Nat.reduceLeDiff, Nat.reduceMul, Nat.zero_add, Nat.add_zero, Nat.mul_one, Int.reduceLE, Int.reduceLT, Int.reduceBEq, hwn])
  refine wz_intro (allIn_ok r' (by omega)) ?_
  rintro _ h1 ⟨rfl, l1⟩
  cases hall : (top.all fun s => inI s 0 ((lo.length : Int) - 1))
  · repeat (first | rw [kz_o] | rw [kz_r0] | simp -dsimp -implicitDefEqProofs only [go_sem, ↓reduceIte, Nat.reduceEqDiff, Nat.reduceBEq, and_self, decide_true, decide_false, Bool.not_true, Bool.not_false, ne_eq, not_false_eq_true, Nat.reduceAdd, Nat.reduceLeDiff, Nat.reduceMul, Nat.zero_add, Nat.add_zero, Nat.mul_one, Int.reduceLE, Int.reduceLT, Int.reduceBEq])
    refine ⟨⟨0, ?_⟩, l1⟩
    rw [chanceI, hall]
    exact Own.nil
  · repeat (first | rw [kz_o] | rw [kz_r0] | simp -dsimp -implicitDefEqProofs only [go_sem, ↓reduceIte, Nat.reduceEqDiff, Nat.reduceBEq, and_self, decide_true, decide_false, Bool.not_true, Bool.not_false, ne_eq, not_false_eq_true, Nat.reduceAdd, Nat.reduceLeDiff, Nat.reduceMul, Nat.zero_add, Nat.add_zero, Nat.mul_one, Int.reduceLE, Int.reduceLT, Int.reduceBEq])
    have hch : chanceI lo top = top.map (chance1 lo (top.getD 0 0)) := by rw [chanceI, if_pos hall]
    have hin : ∀ i : Nat, i < top.length → 0 ≤ top.getD i 0 ∧ top.getD i 0 < (n : Int) := by
      intro i hi
      have := List.all_eq_true.1 hall top[i] (List.getElem_mem hi)
      simp only [inI, Bool.and_eq_true, decide_eq_true_eq] at this
      rw [List.getD_eq_getElem?_getD, List.getElem?_eq_getElem hi]
      simp only [Option.getD_some]
      omega
    refine lz_intro (fun k e h' => look e 0 .mk = .slice a n c ∧ look e 1 .mk = .slice a' n' c' ∧ look e 15 .mk = .slice a' n' c' ∧ look e 16 .mk = .int .i64 n' ∧ h.le h' ∧ hn h .mk ≤ hn h' .mk ∧ ∃ (i : Int) (v : Value), look e 17 .mk = .int .i64 i ∧ look e 5 .mk = v ∧ 0 ≤ i ∧ (k : Int) + i = n' ∧ Own (hn h .mk) h' v 1 i.toNat (((top.map (chance1 lo (top.getD 0 0))).take i.toNat).map (.int .i64))) n' ?_ ?_
    · refine ⟨?_, ?_, ?_, ?_, le_push l1, ?_, 0, _, ?_, rfl, by omega, by omega, ?_⟩
      · simp -dsimp -implicitDefEqProofs only [go_sem, ↓reduceIte, Nat.reduceEqDiff, Nat.reduceBEq, and_self, decide_true, decide_false, Bool.not_true, Bool.not_false, ne_eq, not_false_eq_true, Nat.reduceAdd, Nat.reduceLeDiff, Nat.reduceMul, Nat.zero_add, Nat.add_zero, Nat.mul_one, Int.reduceLE, Int.reduceLT, Int.reduceBEq]
      · simp -dsimp -implicitDefEqProofs only [go_sem, ↓reduceIte, Nat.reduceEqDiff, Nat.reduceBEq, and_self, decide_true, decide_false, Bool.not_true, Bool.not_false, ne_eq, not_false_eq_true, Nat.reduceAdd, Nat.reduceLeDiff, Nat.reduceMul, Nat.zero_add, Nat.add_zero, Nat.mul_one, Int.reduceLE, Int.reduceLT, Int.reduceBEq]
      · simp -dsimp -implicitDefEqProofs only [go_sem, ↓reduceIte, Nat.reduceEqDiff, Nat.reduceBEq, and_self, decide_true, decide_false, Bool.not_true, Bool.not_false, ne_eq, not_false_eq_true, Nat.reduceAdd, Nat.reduceLeDiff, Nat.reduceMul, Nat.zero_add, Nat.add_zero, Nat.mul_one, Int.reduceLE, Int.reduceLT, Int.reduceBEq]
      · simp -dsimp -implicitDefEqProofs only [go_sem, ↓reduceIte, Nat.reduceEqDiff, Nat.reduceBEq, and_self, decide_true, decide_false, Bool.not_true, Bool.not_false, ne_eq, not_false_eq_true, Nat.reduceAdd, Nat.reduceLeDiff, Nat.reduceMul, Nat.zero_add, Nat.add_zero, Nat.mul_one, Int.reduceLE, Int.reduceLT, Int.reduceBEq]
      · have := l1.n; simp -dsimp -implicitDefEqProofs only [go_sem, ↓reduceIte, Nat.reduceEqDiff, Nat.reduceBEq, and_self, decide_true, decide_false, Bool.not_true, Bool.not_false, ne_eq, not_false_eq_true, Nat.reduceAdd, Nat.reduceLeDiff, Nat.reduceMul, Nat.zero_add, Nat.add_zero, Nat.mul_one, Int.reduceLE, Int.reduceLT, Int.reduceBEq]; omega
      · simp -dsimp -implicitDefEqProofs only [go_sem, ↓reduceIte, Nat.reduceEqDiff, Nat.reduceBEq, and_self, decide_true, decide_false, Bool.not_true, Bool.not_false, ne_eq, not_false_eq_true, Nat.reduceAdd, Nat.reduceLeDiff, Nat.reduceMul, Nat.zero_add, Nat.add_zero, Nat.mul_one, Int.reduceLE, Int.reduceLT, Int.reduceBEq]
      · have hnn : (hn h1 .mk == hn h1 .mk) = true := by simp
        refine ⟨by simp, some ⟨hn h1 .mk, 0, none⟩, 0, ?_, .inr ⟨hn h1 .mk, rfl, l1.n, ?_, ?_⟩⟩
        · simp -dsimp -implicitDefEqProofs only [go_sem, ↓reduceIte, Nat.reduceEqDiff, Nat.reduceBEq, and_self, decide_true, decide_false, Bool.not_true, Bool.not_false, ne_eq, not_false_eq_true, Nat.reduceAdd, Nat.reduceLeDiff, Nat.reduceMul, Nat.zero_add, Nat.add_zero, Nat.mul_one, Int.reduceLE, Int.reduceLT, Int.reduceBEq]
          rfl
        · simp -dsimp -implicitDefEqProofs only [go_sem, ↓reduceIte, Nat.reduceEqDiff, Nat.reduceBEq, and_self, decide_true, decide_false, Bool.not_true, Bool.not_false, ne_eq, not_false_eq_true, Nat.reduceAdd, Nat.reduceLeDiff, Nat.reduceMul, Nat.zero_add, Nat.add_zero, Nat.mul_one, Int.reduceLE, Int.reduceLT, Int.reduceBEq]
        · simp -dsimp -implicitDefEqProofs only [go_sem, ↓reduceIte, Nat.reduceEqDiff, Nat.reduceBEq, and_self, decide_true, decide_false, Bool.not_true, Bool.not_false, ne_eq, not_false_eq_true, Nat.reduceAdd, Nat.reduceLeDiff, Nat.reduceMul, Nat.zero_add, Nat.add_zero, Nat.mul_one, Int.reduceLE, Int.reduceLT, Int.reduceBEq, hnn]
          rfl
    · rintro k e h' ⟨e0, e1, e15, e16, l2, hN, i, v, e17, e5, hi, hk, ho⟩
      repeat (first | rw [kz_o] | rw [kz_r0] | simp -dsimp -implicitDefEqProofs only [go_sem, ↓reduceIte, Nat.reduceEqDiff, Nat.reduceBEq, and_self, decide_true, decide_false, Bool.not_true, Bool.not_false, ne_eq, not_false_eq_true, Nat.reduceAdd, Nat.reduceLeDiff, Nat.reduceMul, Nat.zero_add, Nat.add_zero, Nat.mul_one, Int.reduceLE, Int.reduceLT, Int.reduceBEq, e0, e1, e15, e16, e17, e5])
      refine gz_dec (fun h2 => ?_) (fun h2 => ?_)
      · obtain ⟨b1, off1, w1, z1, cs1, rfl, hb1, hlt1, hy1⟩ := (r'.mono l2).int (i := i) ⟨hi, h2⟩
        have hi2 : 0 ≤ i ∧ i < (n' : Int) := ⟨hi, h2⟩
        have hz2 : (0 : Int) ≤ 0 ∧ (0 : Int) < (n' : Int) := ⟨by omega, by omega⟩
        have hv2 : 0 ≤ top.getD i.toNat 0 ∧ top.getD i.toNat 0 < (n : Int) := hin _ (by omega)
        have hv3 : 0 ≤ top.getD 0 0 ∧ top.getD 0 0 < (n : Int) := hin _ (by omega)
        obtain ⟨b2, off2, w2, z2, cs2, e2, hb2, hlt2, hy2⟩ := (r'.mono l2).int (i := 0) hz2
        cases e2
        rw [hb1] at hb2
        cases hb2
        simp only [Int.toNat_zero, Nat.add_zero] at hy2
        obtain ⟨b3, off3, w3, z3, cs3, rfl, hb3, hlt3, hy3⟩ := (r.mono l2).int hv2
        obtain ⟨b4, off4, w4, z4, cs4, e4, hb4, hlt4, hy4⟩ := (r.mono l2).int hv3
        cases e4
        rw [hb3] at hb4
        cases hb4
        repeat (first | rw [kz_o] | rw [kz_r0] | simp -dsimp -implicitDefEqProofs only [go_sem, ↓reduceIte, Nat.reduceEqDiff, Nat.reduceBEq, and_self, decide_true, decide_false, Bool.not_true, Bool.not_false, ne_eq, not_false_eq_true, Nat.reduceAdd, Nat.reduceLeDiff, Nat.reduceMul, Nat.zero_add, Nat.add_zero, Nat.mul_one, Int.reduceLE, Int.reduceLT, Int.reduceBEq, e0, e1, e15, e16, e17, e5, hi2, hb1, hy1])
        refine dq_intro [(0, []), (1, []), (2, []), (3, []), (4, []), (5, []), (6, []), (7, []), (8, []), (9, []), (10, []), (11, []), (12, []), (13, []), (14, []), (15, []), (16, []), (17, [])] (by kernel_rfl) ?_
        repeat (first | rw [kz_o] | rw [kz_r0] | simp -dsimp -implicitDefEqProofs only [go_sem, ↓reduceIte, Nat.reduceEqDiff, Nat.reduceBEq, and_self, decide_true, decide_false, Bool.not_true, Bool.not_false, ne_eq, not_false_eq_true, Nat.reduceAdd, Nat.reduceLeDiff, Nat.reduceMul, Nat.zero_add, Nat.add_zero, Nat.mul_one, Int.reduceLE, Int.reduceLT, Int.reduceBEq, e0, e1, e15, e16, e17, e5, hi2, hz2, hv2, hv3, hb1, hy1, hy2, hb3, hy3, hy4, Int.toNat_zero])
        refine wz_intro implFloorDiv_ok ?_
        rintro _ h6 ⟨rfl, rfl⟩
        repeat (first | rw [kz_o] | rw [kz_r0] | simp -dsimp -implicitDefEqProofs only [go_sem, ↓reduceIte, Nat.reduceEqDiff, Nat.reduceBEq, and_self, decide_true, decide_false, Bool.not_true, Bool.not_false, ne_eq, not_false_eq_true, Nat.reduceAdd, Nat.reduceLeDiff, Nat.reduceMul, Nat.zero_add, Nat.add_zero, Nat.mul_one, Int.reduceLE, Int.reduceLT, Int.reduceBEq])
        refine wz_intro implExp_ok ?_
        rintro _ h' ⟨rfl, rfl⟩
        have hoo : ∀ x : Nat, (x == x) = true := by simp
        repeat (first | rw [kz_o] | rw [kz_r0] | simp -dsimp -implicitDefEqProofs only [go_sem, ↓reduceIte, Nat.reduceEqDiff, Nat.reduceBEq, and_self, decide_true, decide_false, Bool.not_true, Bool.not_false, ne_eq, not_false_eq_true, Nat.reduceAdd, Nat.reduceLeDiff, Nat.reduceMul, Nat.zero_add, Nat.add_zero, Nat.mul_one, Int.reduceLE, Int.reduceLT, Int.reduceBEq, e5, hoo])
        refine append_push (N := hn h .mk) (z := 0) (n := i.toNat) ty_el40 ty_zr3 rfl ty_cl40 ho hN (by have : most = 1099511627776 := rfl; omega) rfl rfl ?_
        intro v' h7 ho7 hn7 hle7 hk7
        repeat (first | rw [kz_o] | rw [kz_r0] | simp -dsimp -implicitDefEqProofs only [go_sem, ↓reduceIte, Nat.reduceEqDiff, Nat.reduceBEq, and_self, decide_true, decide_false, Bool.not_true, Bool.not_false, ne_eq, not_false_eq_true, Nat.reduceAdd, Nat.reduceLeDiff, Nat.reduceMul, Nat.zero_add, Nat.add_zero, Nat.mul_one, Int.reduceLE, Int.reduceLT, Int.reduceBEq, e16, e17])
        have hw : IntKind.i64.wrap (i + 1) = i + 1 := by rw [wrap_i64] <;> omega
        refine ⟨k - 1, by omega, ?_, ?_, ?_, ?_, hle7 h (Nat.le_refl _) l2, by omega, i + 1, v', ?_, ?_, by omega, by omega, ?_⟩
        · simp -dsimp -implicitDefEqProofs only [go_sem, ↓reduceIte, Nat.reduceEqDiff, Nat.reduceBEq, and_self, decide_true, decide_false, Bool.not_true, Bool.not_false, ne_eq, not_false_eq_true, Nat.reduceAdd, Nat.reduceLeDiff, Nat.reduceMul, Nat.zero_add, Nat.add_zero, Nat.mul_one, Int.reduceLE, Int.reduceLT, Int.reduceBEq]
        · simp -dsimp -implicitDefEqProofs only [go_sem, ↓reduceIte, Nat.reduceEqDiff, Nat.reduceBEq, and_self, decide_true, decide_false, Bool.not_true, Bool.not_false, ne_eq, not_false_eq_true, Nat.reduceAdd, Nat.reduceLeDiff, Nat.reduceMul, Nat.zero_add, Nat.add_zero, Nat.mul_one, Int.reduceLE, Int.reduceLT, Int.reduceBEq]
        · simp -dsimp -implicitDefEqProofs only [go_sem, ↓reduceIte, Nat.reduceEqDiff, Nat.reduceBEq, and_self, decide_true, decide_false, Bool.not_true, Bool.not_false, ne_eq, not_false_eq_true, Nat.reduceAdd, Nat.reduceLeDiff, Nat.reduceMul, Nat.zero_add, Nat.add_zero, Nat.mul_one, Int.reduceLE, Int.reduceLT, Int.reduceBEq]
        · simp -dsimp -implicitDefEqProofs only [go_sem, ↓reduceIte, Nat.reduceEqDiff, Nat.reduceBEq, and_self, decide_true, decide_false, Bool.not_true, Bool.not_false, ne_eq, not_false_eq_true, Nat.reduceAdd, Nat.reduceLeDiff, Nat.reduceMul, Nat.zero_add, Nat.add_zero, Nat.mul_one, Int.reduceLE, Int.reduceLT, Int.reduceBEq]
        · simp -dsimp -implicitDefEqProofs only [go_sem, ↓reduceIte, Nat.reduceEqDiff, Nat.reduceBEq, and_self, decide_true, decide_false, Bool.not_true, Bool.not_false, ne_eq, not_false_eq_true, Nat.reduceAdd, Nat.reduceLeDiff, Nat.reduceMul, Nat.zero_add, Nat.add_zero, Nat.mul_one, Int.reduceLE, Int.reduceLT, Int.reduceBEq, hw]
        · simp -dsimp -implicitDefEqProofs only [go_sem, ↓reduceIte, Nat.reduceEqDiff, Nat.reduceBEq, and_self, decide_true, decide_false, Bool.not_true, Bool.not_false, ne_eq, not_false_eq_true, Nat.reduceAdd, Nat.reduceLeDiff, Nat.reduceMul, Nat.zero_add, Nat.add_zero, Nat.mul_one, Int.reduceLE, Int.reduceLT, Int.reduceBEq]
        · have hin2 : i.toNat < (top.map (chance1 lo (top.getD 0 0))).length := by simp; omega
          rw [show (i + 1).toNat = i.toNat + 1 by omega, List.take_succ_eq_append_getElem hin2, List.map_append]
          have he1 : (top.map (chance1 lo (top.getD 0 0)))[i.toNat] = expI (mxI (-1400) (floorI (IntKind.i64.wrap (lo.getD (top.getD i.toNat 0).toNat 0 - lo.getD (top.getD 0 0).toNat 0)) 64)) := by
            have hg1 : top.getD i.toNat 0 = top[i.toNat]'(by omega) := by
              rw [List.getD_eq_getElem?_getD, List.getElem?_eq_getElem (show i.toNat < top.length by omega)]; rfl
            simp only [List.getElem_map, chance1, hg1]
          rw [List.map_cons, List.map_nil, he1]
          exact ho7
      · repeat (first | rw [kz_o] | rw [kz_r0] | simp -dsimp -implicitDefEqProofs only [go_sem, ↓reduceIte, Nat.reduceEqDiff, Nat.reduceBEq, and_self, decide_true, decide_false, Bool.not_true, Bool.not_false, ne_eq, not_false_eq_true, Nat.reduceAdd, Nat.reduceLeDiff, Nat.reduceMul, Nat.zero_add, Nat.add_zero, Nat.mul_one, Int.reduceLE, Int.reduceLT, Int.reduceBEq])
        refine ⟨⟨i.toNat, ?_⟩, l2⟩
        have hin : i.toNat = (top.map (chance1 lo (top.getD 0 0))).length := by simp; omega
        rw [show (top.map (chance1 lo (top.getD 0 0))).take i.toNat = top.map (chance1 lo (top.getD 0 0)) from List.take_of_length_le (by omega)] at ho
        rw [hch]
        exact ho
end Go.Ai
