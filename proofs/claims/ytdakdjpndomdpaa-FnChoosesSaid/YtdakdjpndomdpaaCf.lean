/- Walks of what a config's law reaches. -/
import Derived.Test.YtdakdjpndomdpaaTy
set_option linter.unusedSimpArgs false
set_option linter.unusedVariables false
set_option maxRecDepth 20000
namespace Go.Ai
open Go.Proofs
variable {W0 : World}
def inI (x a b : Int) : Bool := decide (a ≤ x) && decide (x ≤ b)
theorem l01In_ok {x a b : Int} {h : Heap} : WC Try.prog W0 60 [.int .i64 x, .int .i64 a, .int .i64 b] h (fun v h' => v = .bool (inI x a b) ∧ h' = h) := by
  refine start (P := Try.prog) [[0, 1, 2], [0, 1, 2]] (by kernel_rfl) Try.func60 rfl (by decide) (by decide +kernel) (rs := [.tmp 6]) rfl rfl (Nat.le_of_ble_eq_true rfl) ?_
  repeat (first | rw [kz_o] | rw [kz_r0] | simp -dsimp -implicitDefEqProofs only [go_sem, ↓reduceIte, Nat.reduceEqDiff, Nat.reduceBEq, and_self, decide_true, decide_false, Bool.not_true, Bool.not_false, ne_eq, not_false_eq_true, Nat.reduceAdd, Nat.reduceLeDiff, Nat.reduceMul, Nat.zero_add, Nat.add_zero, Nat.mul_one, Int.reduceLE, Int.reduceLT, Int.reduceBEq])
  refine gz_dec (fun h1 => ?_) (fun h1 => ?_)
  · repeat (first | rw [kz_o] | rw [kz_r0] | simp -dsimp -implicitDefEqProofs only [go_sem, ↓reduceIte, Nat.reduceEqDiff, Nat.reduceBEq, and_self, decide_true, decide_false, Bool.not_true, Bool.not_false, ne_eq, not_false_eq_true, Nat.reduceAdd, Nat.reduceLeDiff, Nat.reduceMul, Nat.zero_add, Nat.add_zero, Nat.mul_one, Int.reduceLE, Int.reduceLT, Int.reduceBEq, h1])
    exact ⟨by simp [inI, h1], rfl⟩
  · repeat (first | rw [kz_o] | rw [kz_r0] | simp -dsimp -implicitDefEqProofs only [go_sem, ↓reduceIte, Nat.reduceEqDiff, Nat.reduceBEq, and_self, decide_true, decide_false, Bool.not_true, Bool.not_false, ne_eq, not_false_eq_true, Nat.reduceAdd, Nat.reduceLeDiff, Nat.reduceMul, Nat.zero_add, Nat.add_zero, Nat.mul_one, Int.reduceLE, Int.reduceLT, Int.reduceBEq, h1])
    exact ⟨by simp [inI, h1], rfl⟩
theorem in_ok {x a b : Int} {h : Heap} : WC Try.prog W0 62 [.int .i64 x, .int .i64 a, .int .i64 b] h (fun v h' => v = .bool (inI x a b) ∧ h' = h) := by
  refine start (P := Try.prog) [[0, 1, 2], [0, 1, 2]] (by kernel_rfl) Try.func62 rfl (by decide) (by decide +kernel) (rs := [.tmp 6]) rfl rfl (Nat.le_of_ble_eq_true rfl) ?_
  repeat (first | rw [kz_o] | rw [kz_r0] | simp -dsimp -implicitDefEqProofs only [go_sem, ↓reduceIte, Nat.reduceEqDiff, Nat.reduceBEq, and_self, decide_true, decide_false, Bool.not_true, Bool.not_false, ne_eq, not_false_eq_true, Nat.reduceAdd, Nat.reduceLeDiff, Nat.reduceMul, Nat.zero_add, Nat.add_zero, Nat.mul_one, Int.reduceLE, Int.reduceLT, Int.reduceBEq])
  refine gz_dec (fun h1 => ?_) (fun h1 => ?_)
  · repeat (first | rw [kz_o] | rw [kz_r0] | simp -dsimp -implicitDefEqProofs only [go_sem, ↓reduceIte, Nat.reduceEqDiff, Nat.reduceBEq, and_self, decide_true, decide_false, Bool.not_true, Bool.not_false, ne_eq, not_false_eq_true, Nat.reduceAdd, Nat.reduceLeDiff, Nat.reduceMul, Nat.zero_add, Nat.add_zero, Nat.mul_one, Int.reduceLE, Int.reduceLT, Int.reduceBEq, h1])
    exact ⟨by simp [inI, h1], rfl⟩
  · repeat (first | rw [kz_o] | rw [kz_r0] | simp -dsimp -implicitDefEqProofs only [go_sem, ↓reduceIte, Nat.reduceEqDiff, Nat.reduceBEq, and_self, decide_true, decide_false, Bool.not_true, Bool.not_false, ne_eq, not_false_eq_true, Nat.reduceAdd, Nat.reduceLeDiff, Nat.reduceMul, Nat.zero_add, Nat.add_zero, Nat.mul_one, Int.reduceLE, Int.reduceLT, Int.reduceBEq, h1])
    exact ⟨by simp [inI, h1], rfl⟩

/-! ### Rows of texts -/
theorem szStringS_ok {a : Option Addr} {n c : Nat} {ss : List ByteArray} {h : Heap} {left : Int} (r : Row1 h a n (ss.map .string)) (hn0 : n ≤ 9223372036854775807) (hl : 0 ≤ left ∧ left ≤ 1048576) :
    WC Try.prog W0 59 [.slice a n c, .int .i64 left] h (fun v h' => (∃ k : Int, v = .int .i64 k ∧ (0 ≤ k → (n : Int) ≤ left)) ∧ h' = h) := by
  have hwl : IntKind.i64.wrap (left - n) = left - n := by rw [wrap_i64] <;> omega
  refine start (P := Try.prog) [[0, 1], [0, 1], [0, 1], [], [0, 1], [0, 1, 5], [0, 1, 5], [0, 1, 5], [0, 1, 5], [], [1]] (by kernel_rfl) Try.func59 rfl (by decide) (by decide +kernel) (rs := [.tmp 4]) rfl rfl (Nat.le_of_ble_eq_true rfl) ?_
  repeat (first | rw [kz_o] | rw [kz_r0] | simp -dsimp -implicitDefEqProofs only [go_sem, ↓reduceIte, Nat.reduceEqDiff, Nat.reduceBEq, and_self, decide_true, decide_false, Bool.not_true, Bool.not_false, ne_eq, not_false_eq_true, Nat.reduceAdd, Nat.reduceLeDiff, Nat.reduceMul, Nat.zero_add, Nat.add_zero, Nat.mul_one, Int.reduceLE, Int.reduceLT, Int.reduceBEq])
  refine gz_dec (fun h1 => ?_) (fun h1 => ?_)
  · repeat (first | rw [kz_o] | rw [kz_r0] | simp -dsimp -implicitDefEqProofs only [go_sem, ↓reduceIte, Nat.reduceEqDiff, Nat.reduceBEq, and_self, decide_true, decide_false, Bool.not_true, Bool.not_false, ne_eq, not_false_eq_true, Nat.reduceAdd, Nat.reduceLeDiff, Nat.reduceMul, Nat.zero_add, Nat.add_zero, Nat.mul_one, Int.reduceLE, Int.reduceLT, Int.reduceBEq])
    exact ⟨⟨_, rfl, fun hh => by omega⟩, rfl⟩
  · rw [hwl] at h1
    repeat (first | rw [kz_o] | rw [kz_r0] | simp -dsimp -implicitDefEqProofs only [go_sem, ↓reduceIte, Nat.reduceEqDiff, Nat.reduceBEq, and_self, decide_true, decide_false, Bool.not_true, Bool.not_false, ne_eq, not_false_eq_true, Nat.reduceAdd, Nat.reduceLeDiff, Nat.reduceMul, Nat.zero_add, Nat.add_zero, Nat.mul_one, Int.reduceLE, Int.reduceLT, Int.reduceBEq])
    refine lz_intro (fun k e h' => h' = h ∧ look e 0 .mk = .slice a n c ∧ ∃ x i : Int, look e 1 .mk = .int .i64 x ∧ look e 5 .mk = .int .i64 i ∧ 0 ≤ i ∧ (k : Int) + i = n) n ?_ ?_
    · refine ⟨rfl, ?_, IntKind.i64.wrap (left - n), 0, ?_, ?_, by omega, by omega⟩ <;> simp -dsimp -implicitDefEqProofs only [go_sem, ↓reduceIte, Nat.reduceEqDiff, Nat.reduceBEq, and_self, decide_true, decide_false, Bool.not_true, Bool.not_false, ne_eq, not_false_eq_true, Nat.reduceAdd, Nat.reduceLeDiff, Nat.reduceMul, Nat.zero_add, Nat.add_zero, Nat.mul_one, Int.reduceLE, Int.reduceLT, Int.reduceBEq]
    · rintro k e h ⟨rfl, e0, x, i, e1, e5, hi, hk⟩
      repeat (first | rw [kz_o] | rw [kz_r0] | simp -dsimp -implicitDefEqProofs only [go_sem, ↓reduceIte, Nat.reduceEqDiff, Nat.reduceBEq, and_self, decide_true, decide_false, Bool.not_true, Bool.not_false, ne_eq, not_false_eq_true, Nat.reduceAdd, Nat.reduceLeDiff, Nat.reduceMul, Nat.zero_add, Nat.add_zero, Nat.mul_one, Int.reduceLE, Int.reduceLT, Int.reduceBEq, e0, e1, e5])
      refine gz_dec (fun h2 => ?_) (fun h2 => ?_)
      · obtain ⟨b, off, w, z, cs, ha, hb, hlt, hy⟩ := r.2 i.toNat (by omega)
        subst ha
        have hlen : i.toNat < ss.length := by have := r.1; simp at this; omega
        rw [List.getElem?_map, List.getElem?_eq_getElem hlen, Option.map_some] at hy
        have hi2 : 0 ≤ i ∧ i < (n : Int) := ⟨hi, h2⟩
        repeat (first | rw [kz_o] | rw [kz_r0] | simp -dsimp -implicitDefEqProofs only [go_sem, ↓reduceIte, Nat.reduceEqDiff, Nat.reduceBEq, and_self, decide_true, decide_false, Bool.not_true, Bool.not_false, ne_eq, not_false_eq_true, Nat.reduceAdd, Nat.reduceLeDiff, Nat.reduceMul, Nat.zero_add, Nat.add_zero, Nat.mul_one, Int.reduceLE, Int.reduceLT, Int.reduceBEq, e0, e1, e5, hi2, hb, hy])
        refine gz_dec (fun h3 => ?_) (fun h3 => ?_)
        · repeat (first | rw [kz_o] | rw [kz_r0] | simp -dsimp -implicitDefEqProofs only [go_sem, ↓reduceIte, Nat.reduceEqDiff, Nat.reduceBEq, and_self, decide_true, decide_false, Bool.not_true, Bool.not_false, ne_eq, not_false_eq_true, Nat.reduceAdd, Nat.reduceLeDiff, Nat.reduceMul, Nat.zero_add, Nat.add_zero, Nat.mul_one, Int.reduceLE, Int.reduceLT, Int.reduceBEq])
          exact ⟨⟨_, rfl, fun hh => by omega⟩, rfl⟩
        · repeat (first | rw [kz_o] | rw [kz_r0] | simp -dsimp -implicitDefEqProofs only [go_sem, ↓reduceIte, Nat.reduceEqDiff, Nat.reduceBEq, and_self, decide_true, decide_false, Bool.not_true, Bool.not_false, ne_eq, not_false_eq_true, Nat.reduceAdd, Nat.reduceLeDiff, Nat.reduceMul, Nat.zero_add, Nat.add_zero, Nat.mul_one, Int.reduceLE, Int.reduceLT, Int.reduceBEq])
          refine ⟨k - 1, by omega, rfl, ?_, ?x, i + 1, ?_, ?_, by omega, by omega⟩
          case x => exact (IntKind.i64.wrap (x - (ss[i.toNat].size : Int)))
          · simp -dsimp -implicitDefEqProofs only [go_sem, ↓reduceIte, Nat.reduceEqDiff, Nat.reduceBEq, and_self, decide_true, decide_false, Bool.not_true, Bool.not_false, ne_eq, not_false_eq_true, Nat.reduceAdd, Nat.reduceLeDiff, Nat.reduceMul, Nat.zero_add, Nat.add_zero, Nat.mul_one, Int.reduceLE, Int.reduceLT, Int.reduceBEq]
          · simp -dsimp -implicitDefEqProofs only [go_sem, ↓reduceIte, Nat.reduceEqDiff, Nat.reduceBEq, and_self, decide_true, decide_false, Bool.not_true, Bool.not_false, ne_eq, not_false_eq_true, Nat.reduceAdd, Nat.reduceLeDiff, Nat.reduceMul, Nat.zero_add, Nat.add_zero, Nat.mul_one, Int.reduceLE, Int.reduceLT, Int.reduceBEq]
          · have hw : IntKind.i64.wrap (i + 1) = i + 1 := by rw [wrap_i64] <;> omega
            simp -dsimp -implicitDefEqProofs only [go_sem, ↓reduceIte, Nat.reduceEqDiff, Nat.reduceBEq, and_self, decide_true, decide_false, Bool.not_true, Bool.not_false, ne_eq, not_false_eq_true, Nat.reduceAdd, Nat.reduceLeDiff, Nat.reduceMul, Nat.zero_add, Nat.add_zero, Nat.mul_one, Int.reduceLE, Int.reduceLT, Int.reduceBEq, hw]
      · repeat (first | rw [kz_o] | rw [kz_r0] | simp -dsimp -implicitDefEqProofs only [go_sem, ↓reduceIte, Nat.reduceEqDiff, Nat.reduceBEq, and_self, decide_true, decide_false, Bool.not_true, Bool.not_false, ne_eq, not_false_eq_true, Nat.reduceAdd, Nat.reduceLeDiff, Nat.reduceMul, Nat.zero_add, Nat.add_zero, Nat.mul_one, Int.reduceLE, Int.reduceLT, Int.reduceBEq, e0, e1, e5])
        exact ⟨⟨_, rfl, fun hh => by omega⟩, rfl⟩

theorem toStringS_ok {a : Option Addr} {n c : Nat} {ss : List ByteArray} {h : Heap} (r : Row1 h a n (ss.map .string)) (hn0 : n ≤ 1048576) :
    WC Try.prog W0 61 [.slice a n c] h (fun v h' => v = .slice (some ⟨hn h .mk, 0, none⟩) n n ∧ h' = h.push ⟨true, 1, ss.map .string⟩) := by
  have hlen := r.1
  simp at hlen
  refine start (P := Try.prog) [[0], [0], [0, 3], [0, 3, 4], [0, 3, 4], [0, 3, 4], [3]] (by kernel_rfl) Try.func61 rfl (by decide) (by decide +kernel) (rs := [.tmp 2]) rfl rfl (Nat.le_of_ble_eq_true rfl) ?_
  repeat (first | rw [kz_o] | rw [kz_r0] | simp -dsimp -implicitDefEqProofs only [go_sem, ↓reduceIte, Nat.reduceEqDiff, Nat.reduceBEq, and_self, decide_true, decide_false, Bool.not_true, Bool.not_false, ne_eq, not_false_eq_true, Nat.reduceAdd, Nat.reduceLeDiff, Nat.reduceMul, Nat.zero_add, Nat.add_zero, Nat.mul_one, Int.reduceLE, Int.reduceLT, Int.reduceBEq])
  refine make_intro ty_el31 ty_zr9 (by decide) ⟨by omega, by simp only [Int.toNat_natCast]; have : most = 1099511627776 := rfl; omega⟩ ?_
  repeat (first | rw [kz_o] | rw [kz_r0] | simp -dsimp -implicitDefEqProofs only [go_sem, ↓reduceIte, Nat.reduceEqDiff, Nat.reduceBEq, and_self, decide_true, decide_false, Bool.not_true, Bool.not_false, ne_eq, not_false_eq_true, Nat.reduceAdd, Nat.reduceLeDiff, Nat.reduceMul, Nat.zero_add, Nat.add_zero, Nat.mul_one, Int.reduceLE, Int.reduceLT, Int.reduceBEq])
  refine lz_intro (fun k e h' => look e 0 .mk = .slice a n c ∧ look e 3 .mk = .slice (some ⟨hn h .mk, 0, none⟩) n n ∧ ∃ (i : Int) (cs : List Value), look e 4 .mk = .int .i64 i ∧ 0 ≤ i ∧ (k : Int) + i = n ∧ h' = h.push ⟨true, 1, cs⟩ ∧ cs.length = n ∧ ∀ j : Nat, (j : Int) < i → cs[j]? = (ss.map Value.string)[j]?) n ?_ ?_
  · refine ⟨?_, ?_, 0, repL (n : Int).toNat [.string ⟨#[]⟩], ?_, by omega, by omega, rfl, by rw [rep_one]; simp, fun j hj => by omega⟩ <;> simp -dsimp -implicitDefEqProofs only [go_sem, ↓reduceIte, Nat.reduceEqDiff, Nat.reduceBEq, and_self, decide_true, decide_false, Bool.not_true, Bool.not_false, ne_eq, not_false_eq_true, Nat.reduceAdd, Nat.reduceLeDiff, Nat.reduceMul, Nat.zero_add, Nat.add_zero, Nat.mul_one, Int.reduceLE, Int.reduceLT, Int.reduceBEq, Int.toNat_natCast]
  · rintro k e h' ⟨e0, e3, i, cs, e4, hi, hk, rfl, hcs, hpre⟩
    repeat (first | rw [kz_o] | rw [kz_r0] | simp -dsimp -implicitDefEqProofs only [go_sem, ↓reduceIte, Nat.reduceEqDiff, Nat.reduceBEq, and_self, decide_true, decide_false, Bool.not_true, Bool.not_false, ne_eq, not_false_eq_true, Nat.reduceAdd, Nat.reduceLeDiff, Nat.reduceMul, Nat.zero_add, Nat.add_zero, Nat.mul_one, Int.reduceLE, Int.reduceLT, Int.reduceBEq, e0, e3, e4])
    refine gz_dec (fun h2 => ?_) (fun h2 => ?_)
    · obtain ⟨b, off, w, z, cs', ha, hb, hlt, hy⟩ := r.2 i.toNat (by omega)
      subst ha
      have hlen2 : i.toNat < ss.length := by omega
      rw [List.getElem?_map, List.getElem?_eq_getElem hlen2, Option.map_some] at hy
      have hi2 : 0 ≤ i ∧ i < (n : Int) := ⟨hi, h2⟩
      have hbb : (b == hn h .mk) = false := beq_lt hlt
      have hoo : (hn h .mk == hn h .mk) = true := by simp
      have hw2 : wrt cs i.toNat [.string ss[i.toNat]] = some (cs.set i.toNat (.string ss[i.toNat])) := wrt_set (by omega)
      repeat (first | rw [kz_o] | rw [kz_r0] | simp -dsimp -implicitDefEqProofs only [go_sem, ↓reduceIte, Nat.reduceEqDiff, Nat.reduceBEq, and_self, decide_true, decide_false, Bool.not_true, Bool.not_false, ne_eq, not_false_eq_true, Nat.reduceAdd, Nat.reduceLeDiff, Nat.reduceMul, Nat.zero_add, Nat.add_zero, Nat.mul_one, Int.reduceLE, Int.reduceLT, Int.reduceBEq, e0, e3, e4, hi2, hb, hy, hbb, hoo, hw2])
      have hw : IntKind.i64.wrap (i + 1) = i + 1 := by rw [wrap_i64] <;> omega
      refine ⟨k - 1, by omega, ?_, ?_, i + 1, cs.set i.toNat (.string ss[i.toNat]), ?_, by omega, by omega, rfl, by simpa using hcs, ?_⟩
      · simp -dsimp -implicitDefEqProofs only [go_sem, ↓reduceIte, Nat.reduceEqDiff, Nat.reduceBEq, and_self, decide_true, decide_false, Bool.not_true, Bool.not_false, ne_eq, not_false_eq_true, Nat.reduceAdd, Nat.reduceLeDiff, Nat.reduceMul, Nat.zero_add, Nat.add_zero, Nat.mul_one, Int.reduceLE, Int.reduceLT, Int.reduceBEq]
      · simp -dsimp -implicitDefEqProofs only [go_sem, ↓reduceIte, Nat.reduceEqDiff, Nat.reduceBEq, and_self, decide_true, decide_false, Bool.not_true, Bool.not_false, ne_eq, not_false_eq_true, Nat.reduceAdd, Nat.reduceLeDiff, Nat.reduceMul, Nat.zero_add, Nat.add_zero, Nat.mul_one, Int.reduceLE, Int.reduceLT, Int.reduceBEq]
      · simp -dsimp -implicitDefEqProofs only [go_sem, ↓reduceIte, Nat.reduceEqDiff, Nat.reduceBEq, and_self, decide_true, decide_false, Bool.not_true, Bool.not_false, ne_eq, not_false_eq_true, Nat.reduceAdd, Nat.reduceLeDiff, Nat.reduceMul, Nat.zero_add, Nat.add_zero, Nat.mul_one, Int.reduceLE, Int.reduceLT, Int.reduceBEq, hw]
      · intro j hj
        by_cases hji : j = i.toNat
        · subst hji
          rw [List.getElem?_set_self (by omega), List.getElem?_map, List.getElem?_eq_getElem hlen2, Option.map_some]
        · rw [List.getElem?_set_ne (fun e => hji e.symm)]
          exact hpre j (by omega)
    · repeat (first | rw [kz_o] | rw [kz_r0] | simp -dsimp -implicitDefEqProofs only [go_sem, ↓reduceIte, Nat.reduceEqDiff, Nat.reduceBEq, and_self, decide_true, decide_false, Bool.not_true, Bool.not_false, ne_eq, not_false_eq_true, Nat.reduceAdd, Nat.reduceLeDiff, Nat.reduceMul, Nat.zero_add, Nat.add_zero, Nat.mul_one, Int.reduceLE, Int.reduceLT, Int.reduceBEq, e0, e3, e4])
      refine ⟨rfl, ?_⟩
      have : cs = ss.map .string := by
        apply List.ext_getElem?
        intro j
        by_cases hj : j < n
        · exact hpre j (by omega)
        · rw [List.getElem?_eq_none (by omega), List.getElem?_eq_none (by simp; omega)]
      rw [this]

theorem eqStringS_ok {a a' : Option Addr} {n n' c c' : Nat} {ss ts : List ByteArray} {h : Heap} (r : Row1 h a n (ss.map .string)) (r' : Row1 h a' n' (ts.map .string)) (hn0 : n ≤ 9223372036854775807) :
    WC Try.prog W0 65 [.slice a n c, .slice a' n' c'] h (fun v h' => (∃ q, v = .bool q ∧ (ss = ts → q = true)) ∧ h' = h) := by
  have hlen := r.1
  have hlen' := r'.1
  simp at hlen hlen'
  refine start (P := Try.prog) [[0, 1], [0, 1], [], [0, 1], [0, 1, 5], [0, 1, 5], [0, 1, 5], [], []] (by kernel_rfl) Try.func65 rfl (by decide) (by decide +kernel) (rs := [.tmp 4]) rfl rfl (Nat.le_of_ble_eq_true rfl) ?_
  repeat (first | rw [kz_o] | rw [kz_r0] | simp -dsimp -implicitDefEqProofs only [go_sem, ↓reduceIte, Nat.reduceEqDiff, Nat.reduceBEq, and_self, decide_true, decide_false, Bool.not_true, Bool.not_false, ne_eq, not_false_eq_true, Nat.reduceAdd, Nat.reduceLeDiff, Nat.reduceMul, Nat.zero_add, Nat.add_zero, Nat.mul_one, Int.reduceLE, Int.reduceLT, Int.reduceBEq])
  refine gz_dec (fun h1 => ?_) (fun h1 => ?_)
  · repeat (first | rw [kz_o] | rw [kz_r0] | simp -dsimp -implicitDefEqProofs only [go_sem, ↓reduceIte, Nat.reduceEqDiff, Nat.reduceBEq, and_self, decide_true, decide_false, Bool.not_true, Bool.not_false, ne_eq, not_false_eq_true, Nat.reduceAdd, Nat.reduceLeDiff, Nat.reduceMul, Nat.zero_add, Nat.add_zero, Nat.mul_one, Int.reduceLE, Int.reduceLT, Int.reduceBEq])
    refine ⟨⟨_, rfl, fun he => ?_⟩, rfl⟩
    subst he; omega
  · repeat (first | rw [kz_o] | rw [kz_r0] | simp -dsimp -implicitDefEqProofs only [go_sem, ↓reduceIte, Nat.reduceEqDiff, Nat.reduceBEq, and_self, decide_true, decide_false, Bool.not_true, Bool.not_false, ne_eq, not_false_eq_true, Nat.reduceAdd, Nat.reduceLeDiff, Nat.reduceMul, Nat.zero_add, Nat.add_zero, Nat.mul_one, Int.reduceLE, Int.reduceLT, Int.reduceBEq])
    refine lz_intro (fun k e h' => h' = h ∧ look e 0 .mk = .slice a n c ∧ look e 1 .mk = .slice a' n' c' ∧ ∃ i : Int, look e 5 .mk = .int .i64 i ∧ 0 ≤ i ∧ (k : Int) + i = n) n ?_ ?_
    · refine ⟨rfl, ?_, ?_, 0, ?_, by omega, by omega⟩ <;> simp -dsimp -implicitDefEqProofs only [go_sem, ↓reduceIte, Nat.reduceEqDiff, Nat.reduceBEq, and_self, decide_true, decide_false, Bool.not_true, Bool.not_false, ne_eq, not_false_eq_true, Nat.reduceAdd, Nat.reduceLeDiff, Nat.reduceMul, Nat.zero_add, Nat.add_zero, Nat.mul_one, Int.reduceLE, Int.reduceLT, Int.reduceBEq]
    · rintro k e h ⟨rfl, e0, e1, i, e5, hi, hk⟩
      repeat (first | rw [kz_o] | rw [kz_r0] | simp -dsimp -implicitDefEqProofs only [go_sem, ↓reduceIte, Nat.reduceEqDiff, Nat.reduceBEq, and_self, decide_true, decide_false, Bool.not_true, Bool.not_false, ne_eq, not_false_eq_true, Nat.reduceAdd, Nat.reduceLeDiff, Nat.reduceMul, Nat.zero_add, Nat.add_zero, Nat.mul_one, Int.reduceLE, Int.reduceLT, Int.reduceBEq, e0, e1, e5])
      refine gz_dec (fun h2 => ?_) (fun h2 => ?_)
      · obtain ⟨b, off, w, z, cs, ha, hb, hlt, hy⟩ := r.2 i.toNat (by omega)
        obtain ⟨b', off', w', z', cs', ha', hb', hlt', hy'⟩ := r'.2 i.toNat (by omega)
        subst ha ha'
        have hl1 : i.toNat < ss.length := by omega
        have hl2 : i.toNat < ts.length := by omega
        rw [List.getElem?_map, List.getElem?_eq_getElem hl1, Option.map_some] at hy
        rw [List.getElem?_map, List.getElem?_eq_getElem hl2, Option.map_some] at hy'
        have hi2 : 0 ≤ i ∧ i < (n : Int) := ⟨hi, h2⟩
        have hi3 : 0 ≤ i ∧ i < (n' : Int) := ⟨hi, by omega⟩
        repeat (first | rw [kz_o] | rw [kz_r0] | simp -dsimp -implicitDefEqProofs only [go_sem, ↓reduceIte, Nat.reduceEqDiff, Nat.reduceBEq, and_self, decide_true, decide_false, Bool.not_true, Bool.not_false, ne_eq, not_false_eq_true, Nat.reduceAdd, Nat.reduceLeDiff, Nat.reduceMul, Nat.zero_add, Nat.add_zero, Nat.mul_one, Int.reduceLE, Int.reduceLT, Int.reduceBEq, e0, e1, e5])
        refine dq_intro [(0, []), (1, []), (2, []), (3, []), (4, []), (5, []), (6, []), (7, []), (8, [])] (by kernel_rfl) ?_
        repeat (first | rw [kz_o] | rw [kz_r0] | simp -dsimp -implicitDefEqProofs only [go_sem, ↓reduceIte, Nat.reduceEqDiff, Nat.reduceBEq, and_self, decide_true, decide_false, Bool.not_true, Bool.not_false, ne_eq, not_false_eq_true, Nat.reduceAdd, Nat.reduceLeDiff, Nat.reduceMul, Nat.zero_add, Nat.add_zero, Nat.mul_one, Int.reduceLE, Int.reduceLT, Int.reduceBEq, e0, e1, e5, hi2, hi3, hb, hy, hb', hy'])
        refine gz_intro (fun h3 => ?_) (fun h3 => ?_)
        · repeat (first | rw [kz_o] | rw [kz_r0] | simp -dsimp -implicitDefEqProofs only [go_sem, ↓reduceIte, Nat.reduceEqDiff, Nat.reduceBEq, and_self, decide_true, decide_false, Bool.not_true, Bool.not_false, ne_eq, not_false_eq_true, Nat.reduceAdd, Nat.reduceLeDiff, Nat.reduceMul, Nat.zero_add, Nat.add_zero, Nat.mul_one, Int.reduceLE, Int.reduceLT, Int.reduceBEq])
          refine ⟨⟨_, rfl, fun he => ?_⟩, rfl⟩
          subst he
          simp at h3
        · repeat (first | rw [kz_o] | rw [kz_r0] | simp -dsimp -implicitDefEqProofs only [go_sem, ↓reduceIte, Nat.reduceEqDiff, Nat.reduceBEq, and_self, decide_true, decide_false, Bool.not_true, Bool.not_false, ne_eq, not_false_eq_true, Nat.reduceAdd, Nat.reduceLeDiff, Nat.reduceMul, Nat.zero_add, Nat.add_zero, Nat.mul_one, Int.reduceLE, Int.reduceLT, Int.reduceBEq])
          refine ⟨k - 1, by omega, rfl, ?_, ?_, i + 1, ?_, by omega, by omega⟩
          · simp -dsimp -implicitDefEqProofs only [go_sem, ↓reduceIte, Nat.reduceEqDiff, Nat.reduceBEq, and_self, decide_true, decide_false, Bool.not_true, Bool.not_false, ne_eq, not_false_eq_true, Nat.reduceAdd, Nat.reduceLeDiff, Nat.reduceMul, Nat.zero_add, Nat.add_zero, Nat.mul_one, Int.reduceLE, Int.reduceLT, Int.reduceBEq]
          · simp -dsimp -implicitDefEqProofs only [go_sem, ↓reduceIte, Nat.reduceEqDiff, Nat.reduceBEq, and_self, decide_true, decide_false, Bool.not_true, Bool.not_false, ne_eq, not_false_eq_true, Nat.reduceAdd, Nat.reduceLeDiff, Nat.reduceMul, Nat.zero_add, Nat.add_zero, Nat.mul_one, Int.reduceLE, Int.reduceLT, Int.reduceBEq]
          · have hw : IntKind.i64.wrap (i + 1) = i + 1 := by rw [wrap_i64] <;> omega
            simp -dsimp -implicitDefEqProofs only [go_sem, ↓reduceIte, Nat.reduceEqDiff, Nat.reduceBEq, and_self, decide_true, decide_false, Bool.not_true, Bool.not_false, ne_eq, not_false_eq_true, Nat.reduceAdd, Nat.reduceLeDiff, Nat.reduceMul, Nat.zero_add, Nat.add_zero, Nat.mul_one, Int.reduceLE, Int.reduceLT, Int.reduceBEq, hw]
      · repeat (first | rw [kz_o] | rw [kz_r0] | simp -dsimp -implicitDefEqProofs only [go_sem, ↓reduceIte, Nat.reduceEqDiff, Nat.reduceBEq, and_self, decide_true, decide_false, Bool.not_true, Bool.not_false, ne_eq, not_false_eq_true, Nat.reduceAdd, Nat.reduceLeDiff, Nat.reduceMul, Nat.zero_add, Nat.add_zero, Nat.mul_one, Int.reduceLE, Int.reduceLT, Int.reduceBEq, e0, e1, e5])
        exact ⟨⟨_, rfl, fun _ => rfl⟩, rfl⟩

/-! ### Configs -/
def cfgV (top seed new : Int) (a : Option Addr) (n c : Nat) : Value := .agg [.int .i64 top, .int .i64 seed, .int .i64 new, .slice a n c].toArray
def okText (s : ByteArray) : Bool := inI s.size 1 8
def cfgI (top seed new : Int) (ss : List ByteArray) : Bool := inI top 1 8 && (inI seed 0 1000000000 && (inI new 1 24 && (decide (ss.length ≤ 3) && ss.all okText)))

theorem szConfig_ok {a : Option Addr} {n c : Nat} {ss : List ByteArray} {h : Heap} {left top seed new : Int} (r : Row1 h a n (ss.map .string)) (hn0 : n ≤ 9223372036854775807) (hl : 0 ≤ left ∧ left ≤ 1048576) :
    WC Try.prog W0 21 [cfgV top seed new a n c, .int .i64 left] h (fun v h' => (∃ k : Int, v = .int .i64 k ∧ (0 ≤ k → (n : Int) ≤ left)) ∧ h.le h') := by
  have hoo : (hn h .mk == hn h .mk) = true := by simp
  unfold cfgV
  refine start (P := Try.prog) [[0, 1], [1, 2], [1], [], [1]] (by kernel_rfl) Try.func21 rfl (by decide) (by decide +kernel) (rs := [.tmp 4]) rfl rfl (Nat.le_of_ble_eq_true rfl) ?_
  repeat (first | rw [kz_o] | rw [kz_r0] | simp -dsimp -implicitDefEqProofs only [go_sem, ↓reduceIte, Nat.reduceEqDiff, Nat.reduceBEq, and_self, decide_true, decide_false, Bool.not_true, Bool.not_false, ne_eq, not_false_eq_true, Nat.reduceAdd, Nat.reduceLeDiff, Nat.reduceMul, Nat.zero_add, Nat.add_zero, Nat.mul_one, Int.reduceLE, Int.reduceLT, Int.reduceBEq, hoo])
  refine wz_intro (szStringS_ok (r.mono (Heap.le_push _ _)) hn0 hl) ?_
  rintro _ h' ⟨⟨k, rfl, hk⟩, rfl⟩
  repeat (first | rw [kz_o] | rw [kz_r0] | simp -dsimp -implicitDefEqProofs only [go_sem, ↓reduceIte, Nat.reduceEqDiff, Nat.reduceBEq, and_self, decide_true, decide_false, Bool.not_true, Bool.not_false, ne_eq, not_false_eq_true, Nat.reduceAdd, Nat.reduceLeDiff, Nat.reduceMul, Nat.zero_add, Nat.add_zero, Nat.mul_one, Int.reduceLE, Int.reduceLT, Int.reduceBEq])
  refine gz_dec (fun h1 => ?_) (fun h1 => ?_)
  · repeat (first | rw [kz_o] | rw [kz_r0] | simp -dsimp -implicitDefEqProofs only [go_sem, ↓reduceIte, Nat.reduceEqDiff, Nat.reduceBEq, and_self, decide_true, decide_false, Bool.not_true, Bool.not_false, ne_eq, not_false_eq_true, Nat.reduceAdd, Nat.reduceLeDiff, Nat.reduceMul, Nat.zero_add, Nat.add_zero, Nat.mul_one, Int.reduceLE, Int.reduceLT, Int.reduceBEq])
    exact ⟨⟨_, rfl, fun hh => by omega⟩, Heap.le_push _ _⟩
  · repeat (first | rw [kz_o] | rw [kz_r0] | simp -dsimp -implicitDefEqProofs only [go_sem, ↓reduceIte, Nat.reduceEqDiff, Nat.reduceBEq, and_self, decide_true, decide_false, Bool.not_true, Bool.not_false, ne_eq, not_false_eq_true, Nat.reduceAdd, Nat.reduceLeDiff, Nat.reduceMul, Nat.zero_add, Nat.add_zero, Nat.mul_one, Int.reduceLE, Int.reduceLT, Int.reduceBEq])
    exact ⟨⟨_, rfl, hk⟩, Heap.le_push _ _⟩

theorem toConfig_ok {a : Option Addr} {n c : Nat} {ss : List ByteArray} {h : Heap} {top seed new : Int} (r : Row1 h a n (ss.map .string)) (hn0 : n ≤ 1048576) :
    WC Try.prog W0 23 [cfgV top seed new a n c] h (fun v h' => (∃ b, v = cfgV top seed new (some ⟨b, 0, none⟩) n n ∧ hn h .mk ≤ b ∧ b < hn h' .mk ∧ hg h' b .mk = some ⟨true, 1, ss.map .string⟩) ∧ h.le h') := by
  have hoo : ∀ x : Nat, (x == x) = true := by simp
  unfold cfgV
  refine start (P := Try.prog) [[0], [1, 2], [1, 2, 3], [1, 2, 3], [1, 2, 3], [1, 2, 3], [2, 3]] (by kernel_rfl) Try.func23 rfl (by decide) (by decide +kernel) (rs := [.cell 2 36]) rfl rfl (Nat.le_of_ble_eq_true rfl) ?_
  repeat (first | rw [kz_o] | rw [kz_r0] | simp -dsimp -implicitDefEqProofs only [go_sem, ↓reduceIte, Nat.reduceEqDiff, Nat.reduceBEq, and_self, decide_true, decide_false, Bool.not_true, Bool.not_false, ne_eq, not_false_eq_true, Nat.reduceAdd, Nat.reduceLeDiff, Nat.reduceMul, Nat.zero_add, Nat.add_zero, Nat.mul_one, Int.reduceLE, Int.reduceLT, Int.reduceBEq, hoo])
  have hle : h.le ((((((h.push ⟨true, 4, [.int .i64 top, .int .i64 seed, .int .i64 new, .slice a n c]⟩).push ⟨true, 4, [.int .i64 0, .int .i64 0, .int .i64 0, .slice none 0 0]⟩).push
      ⟨true, 4, [.int .i64 0, .int .i64 0, .int .i64 0, .slice none 0 0]⟩).set (hn h .mk + 1 + 1) ⟨true, 4, [.int .i64 top, .int .i64 0, .int .i64 0, .slice none 0 0]⟩).set (hn h .mk + 1 + 1)
      ⟨true, 4, [.int .i64 top, .int .i64 seed, .int .i64 0, .slice none 0 0]⟩).set (hn h .mk + 1 + 1) ⟨true, 4, [.int .i64 top, .int .i64 seed, .int .i64 new, .slice none 0 0]⟩) :=
    le_set (le_set (le_set (le_push (le_push (le_push (Heap.le_refl h)))) (by omega)) (by omega)) (by omega)
  refine wz_intro (toStringS_ok (r.mono hle) hn0) ?_
  rintro _ h' ⟨rfl, rfl⟩
  repeat (first | rw [kz_o] | rw [kz_r0] | simp -dsimp -implicitDefEqProofs only [go_sem, ↓reduceIte, Nat.reduceEqDiff, Nat.reduceBEq, and_self, decide_true, decide_false, Bool.not_true, Bool.not_false, ne_eq, not_false_eq_true, Nat.reduceAdd, Nat.reduceLeDiff, Nat.reduceMul, Nat.zero_add, Nat.add_zero, Nat.mul_one, Int.reduceLE, Int.reduceLT, Int.reduceBEq, hoo])
  refine ⟨⟨hn h .mk + 1 + 1 + 1, rfl, by omega, ?_, ?_⟩, ?_⟩
  · simp -dsimp -implicitDefEqProofs only [go_sem, ↓reduceIte, Nat.reduceEqDiff, Nat.reduceBEq, and_self, decide_true, decide_false, Bool.not_true, Bool.not_false, ne_eq, not_false_eq_true, Nat.reduceAdd, Nat.reduceLeDiff, Nat.reduceMul, Nat.zero_add, Nat.add_zero, Nat.mul_one, Int.reduceLE, Int.reduceLT, Int.reduceBEq]
  · simp -dsimp -implicitDefEqProofs only [go_sem, ↓reduceIte, Nat.reduceEqDiff, Nat.reduceBEq, and_self, decide_true, decide_false, Bool.not_true, Bool.not_false, ne_eq, not_false_eq_true, Nat.reduceAdd, Nat.reduceLeDiff, Nat.reduceMul, Nat.zero_add, Nat.add_zero, Nat.mul_one, Int.reduceLE, Int.reduceLT, Int.reduceBEq, hoo]
  · exact le_set (le_set (le_push hle) (by omega)) (by omega)

theorem eqConfig_ok {a a' : Option Addr} {n n' c c' : Nat} {ss ts : List ByteArray} {h : Heap} {top seed new top' seed' new' : Int} (r : Row1 h a n (ss.map .string)) (r' : Row1 h a' n' (ts.map .string)) (hn0 : n ≤ 9223372036854775807) :
    WC Try.prog W0 25 [cfgV top seed new a n c, cfgV top' seed' new' a' n' c'] h (fun v h' => (∃ q, v = .bool q ∧ (top = top' ∧ seed = seed' ∧ new = new' ∧ ss = ts → q = true)) ∧ h.le h') := by
  have hoo : ∀ x : Nat, (x == x) = true := by simp
  have hle : ∀ k k', h.le ((h.push k).push k') := fun k k' => le_push (le_push (Heap.le_refl h))
  unfold cfgV
  refine start (P := Try.prog) [[0, 1], [2, 3], [], [2, 3], [], [2, 3], [], [2, 3], [], []] (by kernel_rfl) Try.func25 rfl (by decide) (by decide +kernel) (rs := [.tmp 4]) rfl rfl (Nat.le_of_ble_eq_true rfl) ?_
  repeat (first | rw [kz_o] | rw [kz_r0] | simp -dsimp -implicitDefEqProofs only [go_sem, ↓reduceIte, Nat.reduceEqDiff, Nat.reduceBEq, and_self, decide_true, decide_false, Bool.not_true, Bool.not_false, ne_eq, not_false_eq_true, Nat.reduceAdd, Nat.reduceLeDiff, Nat.reduceMul, Nat.zero_add, Nat.add_zero, Nat.mul_one, Int.reduceLE, Int.reduceLT, Int.reduceBEq, hoo])
  refine gz_dec (fun h1 => ?_) (fun h1 => ?_)
  · repeat (first | rw [kz_o] | rw [kz_r0] | simp -dsimp -implicitDefEqProofs only [go_sem, ↓reduceIte, Nat.reduceEqDiff, Nat.reduceBEq, and_self, decide_true, decide_false, Bool.not_true, Bool.not_false, ne_eq, not_false_eq_true, Nat.reduceAdd, Nat.reduceLeDiff, Nat.reduceMul, Nat.zero_add, Nat.add_zero, Nat.mul_one, Int.reduceLE, Int.reduceLT, Int.reduceBEq])
    exact ⟨⟨_, rfl, fun hh => absurd hh.1 h1⟩, hle _ _⟩
  · repeat (first | rw [kz_o] | rw [kz_r0] | simp -dsimp -implicitDefEqProofs only [go_sem, ↓reduceIte, Nat.reduceEqDiff, Nat.reduceBEq, and_self, decide_true, decide_false, Bool.not_true, Bool.not_false, ne_eq, not_false_eq_true, Nat.reduceAdd, Nat.reduceLeDiff, Nat.reduceMul, Nat.zero_add, Nat.add_zero, Nat.mul_one, Int.reduceLE, Int.reduceLT, Int.reduceBEq, hoo])
    refine gz_dec (fun h2 => ?_) (fun h2 => ?_)
    · repeat (first | rw [kz_o] | rw [kz_r0] | simp -dsimp -implicitDefEqProofs only [go_sem, ↓reduceIte, Nat.reduceEqDiff, Nat.reduceBEq, and_self, decide_true, decide_false, Bool.not_true, Bool.not_false, ne_eq, not_false_eq_true, Nat.reduceAdd, Nat.reduceLeDiff, Nat.reduceMul, Nat.zero_add, Nat.add_zero, Nat.mul_one, Int.reduceLE, Int.reduceLT, Int.reduceBEq])
      exact ⟨⟨_, rfl, fun hh => absurd hh.2.1 h2⟩, hle _ _⟩
    · repeat (first | rw [kz_o] | rw [kz_r0] | simp -dsimp -implicitDefEqProofs only [go_sem, ↓reduceIte, Nat.reduceEqDiff, Nat.reduceBEq, and_self, decide_true, decide_false, Bool.not_true, Bool.not_false, ne_eq, not_false_eq_true, Nat.reduceAdd, Nat.reduceLeDiff, Nat.reduceMul, Nat.zero_add, Nat.add_zero, Nat.mul_one, Int.reduceLE, Int.reduceLT, Int.reduceBEq, hoo])
      refine gz_dec (fun h3 => ?_) (fun h3 => ?_)
      · repeat (first | rw [kz_o] | rw [kz_r0] | simp -dsimp -implicitDefEqProofs only [go_sem, ↓reduceIte, Nat.reduceEqDiff, Nat.reduceBEq, and_self, decide_true, decide_false, Bool.not_true, Bool.not_false, ne_eq, not_false_eq_true, Nat.reduceAdd, Nat.reduceLeDiff, Nat.reduceMul, Nat.zero_add, Nat.add_zero, Nat.mul_one, Int.reduceLE, Int.reduceLT, Int.reduceBEq])
        exact ⟨⟨_, rfl, fun hh => absurd hh.2.2.1 h3⟩, hle _ _⟩
      · repeat (first | rw [kz_o] | rw [kz_r0] | simp -dsimp -implicitDefEqProofs only [go_sem, ↓reduceIte, Nat.reduceEqDiff, Nat.reduceBEq, and_self, decide_true, decide_false, Bool.not_true, Bool.not_false, ne_eq, not_false_eq_true, Nat.reduceAdd, Nat.reduceLeDiff, Nat.reduceMul, Nat.zero_add, Nat.add_zero, Nat.mul_one, Int.reduceLE, Int.reduceLT, Int.reduceBEq, hoo])
        refine wz_intro (eqStringS_ok (r.mono (hle _ _)) (r'.mono (hle _ _)) hn0) ?_
        rintro _ h' ⟨⟨q, rfl, hq⟩, rfl⟩
        repeat (first | rw [kz_o] | rw [kz_r0] | simp -dsimp -implicitDefEqProofs only [go_sem, ↓reduceIte, Nat.reduceEqDiff, Nat.reduceBEq, and_self, decide_true, decide_false, Bool.not_true, Bool.not_false, ne_eq, not_false_eq_true, Nat.reduceAdd, Nat.reduceLeDiff, Nat.reduceMul, Nat.zero_add, Nat.add_zero, Nat.mul_one, Int.reduceLE, Int.reduceLT, Int.reduceBEq])
        refine gz_intro (fun h4 => ?_) (fun h4 => ?_)
        · repeat (first | rw [kz_o] | rw [kz_r0] | simp -dsimp -implicitDefEqProofs only [go_sem, ↓reduceIte, Nat.reduceEqDiff, Nat.reduceBEq, and_self, decide_true, decide_false, Bool.not_true, Bool.not_false, ne_eq, not_false_eq_true, Nat.reduceAdd, Nat.reduceLeDiff, Nat.reduceMul, Nat.zero_add, Nat.add_zero, Nat.mul_one, Int.reduceLE, Int.reduceLT, Int.reduceBEq])
          exact ⟨⟨_, rfl, fun hh => by rw [hq hh.2.2.2] at h4; cases h4⟩, hle _ _⟩
        · repeat (first | rw [kz_o] | rw [kz_r0] | simp -dsimp -implicitDefEqProofs only [go_sem, ↓reduceIte, Nat.reduceEqDiff, Nat.reduceBEq, and_self, decide_true, decide_false, Bool.not_true, Bool.not_false, ne_eq, not_false_eq_true, Nat.reduceAdd, Nat.reduceLeDiff, Nat.reduceMul, Nat.zero_add, Nat.add_zero, Nat.mul_one, Int.reduceLE, Int.reduceLT, Int.reduceBEq])
          exact ⟨⟨_, rfl, fun _ => rfl⟩, hle _ _⟩
end Go.Ai
