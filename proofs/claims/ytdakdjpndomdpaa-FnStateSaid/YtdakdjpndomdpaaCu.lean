/- What the drawing cursor does: it hands back a number, and keeps what it needs. -/
import Derived.Test.YtdakdjpndomdpaaTy
set_option linter.unusedSimpArgs false
set_option linter.unusedVariables false
set_option maxRecDepth 20000
namespace Go.Ai
open Go.Proofs
variable {W0 : World}

/-- The bytes that a cursor reads. -/
def Code8 (h : Heap) (a : Option Addr) (n : Nat) (b : Nat) : Prop :=
  ∀ i : Nat, i < n → ∃ b' off w z cs y, a = some ⟨b', off, none⟩ ∧ hg h b' .mk = some ⟨w, z, cs⟩ ∧ b' ≠ b ∧ cs[off + i]? = some (.int .u8 y)
def CurOk (h : Heap) (b : Nat) (a : Option Addr) (n c : Nat) : Prop :=
  (∃ i x, hg h b .mk = some ⟨true, 3, [.slice a n c, .int .i64 i, .int .i64 x]⟩ ∧ 0 ≤ i) ∧ n ≤ 140737488351232 ∧ Code8 h a n b

theorem Code8.set {h : Heap} {a : Option Addr} {n b : Nat} (c : Code8 h a n b) (k : Blk) : Code8 (h.set b k) a n b := by
  intro i hi
  obtain ⟨b', off, w, z, cs, y, h1, h2, h3, h4⟩ := c i hi
  refine ⟨b', off, w, z, cs, y, h1, ?_, h3, h4⟩
  rw [hg_set, show (b' == b) = false by simpa using h3, hk_f]; exact h2
theorem CurOk.set {h : Heap} {b n c : Nat} {a : Option Addr} (co : CurOk h b a n c) (i x : Int) (hi : 0 ≤ i) : CurOk (h.set b ⟨true, 3, [.slice a n c, .int .i64 i, .int .i64 x]⟩) b a n c :=
  ⟨⟨i, x, by rw [hg_set]; simp [hk], hi⟩, co.2.1, co.2.2.set _⟩
theorem set_set {h : Heap} {b : Nat} {k k' : Blk} : (h.set b k).set b k' = h.set b k' := by
  unfold Heap.set; congr 1; funext x; by_cases hx : x = b <;> simp [hx]

theorem byte_ok {b : Nat} {a : Option Addr} {n c : Nat} {h : Heap} (co : CurOk h b a n c) :
    WC Try.prog W0 116 [.pointer (some ⟨b, 0, none⟩)] h (fun v h' => (∃ r, v = .int .i64 r) ∧ CurOk h' b a n c) := by
  obtain ⟨⟨i, x, hb, hi⟩, hn, hc⟩ := id co
  have hbb : (b == b) = true := by simp
  refine start (P := Try.prog) [[0], [0], [0], [0, 3], [0, 3], [0, 3], [3]] (by kernel_rfl) Try.func116 rfl (by decide) (by decide +kernel) (rs := [.tmp 2]) rfl rfl (Nat.le_of_ble_eq_true rfl) ?_
  repeat (first | rw [kz_o] | rw [kz_r0] | simp -dsimp -implicitDefEqProofs only [go_sem, ↓reduceIte, Nat.reduceEqDiff, Nat.reduceBEq, and_self, decide_true, decide_false, ne_eq, not_false_eq_true, Nat.reduceAdd, Nat.reduceLeDiff, Nat.reduceMul, Nat.zero_add, Nat.add_zero, Nat.mul_one, Int.reduceLE, Int.reduceLT, Int.reduceBEq, hb, hbb])
  refine dq_intro [(0, []), (1, []), (2, []), (3, []), (4, []), (5, []), (6, []), (7, []), (8, []), (9, []), (10, []), (11, []), (12, [])] (by kernel_rfl) ?_
  repeat (first | rw [kz_o] | rw [kz_r0] | simp -dsimp -implicitDefEqProofs only [go_sem, ↓reduceIte, Nat.reduceEqDiff, Nat.reduceBEq, and_self, decide_true, decide_false, ne_eq, not_false_eq_true, Nat.reduceAdd, Nat.reduceLeDiff, Nat.reduceMul, Nat.zero_add, Nat.add_zero, Nat.mul_one, Int.reduceLE, Int.reduceLT, Int.reduceBEq, hb, hbb])
  refine dq_intro [(0, []), (1, []), (2, []), (3, []), (4, []), (5, []), (6, []), (7, []), (8, []), (9, [])] (by kernel_rfl) ?_
  repeat (first | rw [kz_o] | rw [kz_r0] | simp -dsimp -implicitDefEqProofs only [go_sem, ↓reduceIte, Nat.reduceEqDiff, Nat.reduceBEq, and_self, decide_true, decide_false, ne_eq, not_false_eq_true, Nat.reduceAdd, Nat.reduceLeDiff, Nat.reduceMul, Nat.zero_add, Nat.add_zero, Nat.mul_one, Int.reduceLE, Int.reduceLT, Int.reduceBEq, hb, hbb])
  refine gz_dec (fun h1 => ?_) (fun h1 => ?_)
  · obtain ⟨b', off, w, z, cs, y, ha, hb', hne, hy⟩ := hc i.toNat (by omega)
    subst ha
    have hi2 : 0 ≤ i ∧ i < (n : Int) := ⟨hi, h1⟩
    have hne' : (b' == b) = false := by simpa using hne
    repeat (first | rw [kz_o] | rw [kz_r0] | simp -dsimp -implicitDefEqProofs only [go_sem, ↓reduceIte, Nat.reduceEqDiff, Nat.reduceBEq, and_self, decide_true, decide_false, ne_eq, not_false_eq_true, Nat.reduceAdd, Nat.reduceLeDiff, Nat.reduceMul, Nat.zero_add, Nat.add_zero, Nat.mul_one, Int.reduceLE, Int.reduceLT, Int.reduceBEq, hb, hbb])
    refine dq_intro [(0, []), (1, []), (2, []), (3, []), (4, []), (5, []), (6, []), (7, []), (8, []), (9, []), (10, []), (11, []), (12, []), (13, []), (14, [])] (by kernel_rfl) ?_
    repeat (first | rw [kz_o] | rw [kz_r0] | simp -dsimp -implicitDefEqProofs only [go_sem, ↓reduceIte, Nat.reduceEqDiff, Nat.reduceBEq, and_self, decide_true, decide_false, ne_eq, not_false_eq_true, Nat.reduceAdd, Nat.reduceLeDiff, Nat.reduceMul, Nat.zero_add, Nat.add_zero, Nat.mul_one, Int.reduceLE, Int.reduceLT, Int.reduceBEq, hb, hbb, hi2, hb', hne', hy])
    refine ⟨⟨_, rfl⟩, ?_⟩
    rw [set_set]
    exact co.set _ _ (by rw [wrap_i64] <;> omega)
  · repeat (first | rw [kz_o] | rw [kz_r0] | simp -dsimp -implicitDefEqProofs only [go_sem, ↓reduceIte, Nat.reduceEqDiff, Nat.reduceBEq, and_self, decide_true, decide_false, ne_eq, not_false_eq_true, Nat.reduceAdd, Nat.reduceLeDiff, Nat.reduceMul, Nat.zero_add, Nat.add_zero, Nat.mul_one, Int.reduceLE, Int.reduceLT, Int.reduceBEq, hb, hbb])
    exact ⟨⟨_, rfl⟩, co.set _ _ hi⟩

theorem below_ok {b : Nat} {a : Option Addr} {n c : Nat} {h : Heap} {m : Int} (co : CurOk h b a n c) :
    WC Try.prog W0 91 [.pointer (some ⟨b, 0, none⟩), .int .i64 m] h (fun v h' => (∃ r, v = .int .i64 r) ∧ CurOk h' b a n c) := by
  refine start (P := Try.prog) [[0, 1], [0, 1], [], [0, 1], [0, 1], [0, 1], [0, 1, 5], [0, 1, 5, 6], [0, 1, 5, 6, 7], [1, 5, 6, 7, 8]] (by kernel_rfl) Try.func91 rfl (by decide) (by decide +kernel) (rs := [.tmp 4]) rfl rfl (Nat.le_of_ble_eq_true rfl) ?_
  repeat (first | rw [kz_o] | rw [kz_r0] | simp -dsimp -implicitDefEqProofs only [go_sem, ↓reduceIte, Nat.reduceEqDiff, Nat.reduceBEq, and_self, decide_true, decide_false, ne_eq, not_false_eq_true, Nat.reduceAdd, Nat.reduceLeDiff, Nat.reduceMul, Nat.zero_add, Nat.add_zero, Nat.mul_one, Int.reduceLE, Int.reduceLT, Int.reduceBEq])
  refine gz_dec (fun h1 => ?_) (fun h1 => ?_)
  · repeat (first | rw [kz_o] | rw [kz_r0] | simp -dsimp -implicitDefEqProofs only [go_sem, ↓reduceIte, Nat.reduceEqDiff, Nat.reduceBEq, and_self, decide_true, decide_false, ne_eq, not_false_eq_true, Nat.reduceAdd, Nat.reduceLeDiff, Nat.reduceMul, Nat.zero_add, Nat.add_zero, Nat.mul_one, Int.reduceLE, Int.reduceLT, Int.reduceBEq])
    exact ⟨⟨_, rfl⟩, co⟩
  · repeat (first | rw [kz_o] | rw [kz_r0] | simp -dsimp -implicitDefEqProofs only [go_sem, ↓reduceIte, Nat.reduceEqDiff, Nat.reduceBEq, and_self, decide_true, decide_false, ne_eq, not_false_eq_true, Nat.reduceAdd, Nat.reduceLeDiff, Nat.reduceMul, Nat.zero_add, Nat.add_zero, Nat.mul_one, Int.reduceLE, Int.reduceLT, Int.reduceBEq])
    have hm : (m == 0) = false := by simp; omega
    refine gz_dec (fun h2 => ?_) (fun h2 => ?_)
    · repeat (first | rw [kz_o] | rw [kz_r0] | simp -dsimp -implicitDefEqProofs only [go_sem, ↓reduceIte, Nat.reduceEqDiff, Nat.reduceBEq, and_self, decide_true, decide_false, ne_eq, not_false_eq_true, Nat.reduceAdd, Nat.reduceLeDiff, Nat.reduceMul, Nat.zero_add, Nat.add_zero, Nat.mul_one, Int.reduceLE, Int.reduceLT, Int.reduceBEq])
      refine wz_intro (byte_ok co) ?_
      rintro _ h' ⟨⟨r, rfl⟩, co⟩
      repeat (first | rw [kz_o] | rw [kz_r0] | simp -dsimp -implicitDefEqProofs only [go_sem, ↓reduceIte, Nat.reduceEqDiff, Nat.reduceBEq, and_self, decide_true, decide_false, ne_eq, not_false_eq_true, Nat.reduceAdd, Nat.reduceLeDiff, Nat.reduceMul, Nat.zero_add, Nat.add_zero, Nat.mul_one, Int.reduceLE, Int.reduceLT, Int.reduceBEq, hm])
      exact ⟨⟨_, rfl⟩, co⟩
    · repeat (first | rw [kz_o] | rw [kz_r0] | simp -dsimp -implicitDefEqProofs only [go_sem, ↓reduceIte, Nat.reduceEqDiff, Nat.reduceBEq, and_self, decide_true, decide_false, ne_eq, not_false_eq_true, Nat.reduceAdd, Nat.reduceLeDiff, Nat.reduceMul, Nat.zero_add, Nat.add_zero, Nat.mul_one, Int.reduceLE, Int.reduceLT, Int.reduceBEq])
      refine wz_intro (byte_ok co) ?_
      rintro _ h' ⟨⟨r, rfl⟩, co⟩
      repeat (first | rw [kz_o] | rw [kz_r0] | simp -dsimp -implicitDefEqProofs only [go_sem, ↓reduceIte, Nat.reduceEqDiff, Nat.reduceBEq, and_self, decide_true, decide_false, ne_eq, not_false_eq_true, Nat.reduceAdd, Nat.reduceLeDiff, Nat.reduceMul, Nat.zero_add, Nat.add_zero, Nat.mul_one, Int.reduceLE, Int.reduceLT, Int.reduceBEq])
      refine wz_intro (byte_ok co) ?_
      rintro _ h' ⟨⟨r2, rfl⟩, co⟩
      repeat (first | rw [kz_o] | rw [kz_r0] | simp -dsimp -implicitDefEqProofs only [go_sem, ↓reduceIte, Nat.reduceEqDiff, Nat.reduceBEq, and_self, decide_true, decide_false, ne_eq, not_false_eq_true, Nat.reduceAdd, Nat.reduceLeDiff, Nat.reduceMul, Nat.zero_add, Nat.add_zero, Nat.mul_one, Int.reduceLE, Int.reduceLT, Int.reduceBEq])
      refine wz_intro (byte_ok co) ?_
      rintro _ h' ⟨⟨r3, rfl⟩, co⟩
      repeat (first | rw [kz_o] | rw [kz_r0] | simp -dsimp -implicitDefEqProofs only [go_sem, ↓reduceIte, Nat.reduceEqDiff, Nat.reduceBEq, and_self, decide_true, decide_false, ne_eq, not_false_eq_true, Nat.reduceAdd, Nat.reduceLeDiff, Nat.reduceMul, Nat.zero_add, Nat.add_zero, Nat.mul_one, Int.reduceLE, Int.reduceLT, Int.reduceBEq])
      refine wz_intro (byte_ok co) ?_
      rintro _ h' ⟨⟨r4, rfl⟩, co⟩
      repeat (first | rw [kz_o] | rw [kz_r0] | simp -dsimp -implicitDefEqProofs only [go_sem, ↓reduceIte, Nat.reduceEqDiff, Nat.reduceBEq, and_self, decide_true, decide_false, ne_eq, not_false_eq_true, Nat.reduceAdd, Nat.reduceLeDiff, Nat.reduceMul, Nat.zero_add, Nat.add_zero, Nat.mul_one, Int.reduceLE, Int.reduceLT, Int.reduceBEq, hm])
      exact ⟨⟨_, rfl⟩, co⟩
theorem state_ok {b : Nat} {a : Option Addr} {n c : Nat} {h : Heap} (co : CurOk h b a n c) :
    WC Try.prog W0 57 [.pointer (some ⟨b, 0, none⟩)] h (fun v h' => (∃ r, v = .int .u64 r ∧ 0 ≤ r ∧ r < 18446744073709551616) ∧ CurOk h' b a n c) := by
  refine start (P := Try.prog) [[0], [0]] (by kernel_rfl) Try.func57 rfl (by decide) (by decide +kernel) (rs := [.tmp 2]) rfl rfl (Nat.le_of_ble_eq_true rfl) ?_
  repeat (first | rw [kz_o] | rw [kz_r0] | simp -dsimp -implicitDefEqProofs only [go_sem, ↓reduceIte, Nat.reduceEqDiff, Nat.reduceBEq, and_self, decide_true, decide_false, ne_eq, not_false_eq_true, Nat.reduceAdd, Nat.reduceLeDiff, Nat.reduceMul, Nat.zero_add, Nat.add_zero, Nat.mul_one, Int.reduceLE, Int.reduceLT, Int.reduceBEq])
  refine wz_intro (below_ok co) ?_
  rintro _ h' ⟨⟨r, rfl⟩, co⟩
  repeat (first | rw [kz_o] | rw [kz_r0] | simp -dsimp -implicitDefEqProofs only [go_sem, ↓reduceIte, Nat.reduceEqDiff, Nat.reduceBEq, and_self, decide_true, decide_false, ne_eq, not_false_eq_true, Nat.reduceAdd, Nat.reduceLeDiff, Nat.reduceMul, Nat.zero_add, Nat.add_zero, Nat.mul_one, Int.reduceLE, Int.reduceLT, Int.reduceBEq])
  refine wz_intro (below_ok co) ?_
  rintro _ h' ⟨⟨r2, rfl⟩, co⟩
  repeat (first | rw [kz_o] | rw [kz_r0] | simp -dsimp -implicitDefEqProofs only [go_sem, ↓reduceIte, Nat.reduceEqDiff, Nat.reduceBEq, and_self, decide_true, decide_false, ne_eq, not_false_eq_true, Nat.reduceAdd, Nat.reduceLeDiff, Nat.reduceMul, Nat.zero_add, Nat.add_zero, Nat.mul_one, Int.reduceLE, Int.reduceLT, Int.reduceBEq])
  refine ⟨⟨_, rfl, ?_⟩, co⟩
  rw [wrap_u64]; omega

/-- The bytes of a row that was handed in. -/
def Row8 (h : Heap) (a : Option Addr) (n : Nat) : Prop :=
  n ≤ 140737488351232 ∧ ∀ i : Nat, i < n → ∃ b' off w z cs y, a = some ⟨b', off, none⟩ ∧ hg h b' .mk = some ⟨w, z, cs⟩ ∧ b' < hn h .mk ∧ cs[off + i]? = some (.int .u8 y)

theorem new_ok {a : Option Addr} {n c : Nat} {h : Heap} (ro : Row8 h a n) :
    WC Try.prog W0 58 [.slice a n c] h (fun v h' => ∃ b, v = .pointer (some ⟨b, 0, none⟩) ∧ CurOk h' b a n c) := by
  refine start (P := Try.prog) [[0], [0], [0, 3], [0, 3, 4], [0, 3, 4], [0, 3, 4], [0, 3]] (by kernel_rfl) Try.func58 rfl (by decide) (by decide +kernel) (rs := [.tmp 2]) rfl rfl (Nat.le_of_ble_eq_true rfl) ?_
  repeat (first | rw [kz_o] | rw [kz_r0] | simp -dsimp -implicitDefEqProofs only [go_sem, ↓reduceIte, Nat.reduceEqDiff, Nat.reduceBEq, and_self, decide_true, decide_false, ne_eq, not_false_eq_true, Nat.reduceAdd, Nat.reduceLeDiff, Nat.reduceMul, Nat.zero_add, Nat.add_zero, Nat.mul_one, Int.reduceLE, Int.reduceLT, Int.reduceBEq])
  refine lz_intro (fun k e h' => h' = h ∧ look e 0 .mk = .slice a n c ∧ ∃ x i : Int, look e 3 .mk = .int .i64 x ∧ look e 4 .mk = .int .i64 i ∧ 0 ≤ i ∧ (k : Int) + i = n) n ?_ ?_
  · refine ⟨rfl, ?_, IntKind.i64.wrap (11201 + n), 0, ?_, ?_, by omega, by omega⟩ <;> simp -dsimp -implicitDefEqProofs only [go_sem, ↓reduceIte, Nat.reduceEqDiff, Nat.reduceBEq, and_self, decide_true, decide_false, ne_eq, not_false_eq_true, Nat.reduceAdd, Nat.reduceLeDiff, Nat.reduceMul, Nat.zero_add, Nat.add_zero, Nat.mul_one, Int.reduceLE, Int.reduceLT, Int.reduceBEq]
  · rintro k e h ⟨rfl, e0, x, i, e3, e4, hi, hk⟩
    have hnn : (hn h .mk == hn h .mk) = true := by simp
    have fin : ∀ h2, h2 = h.push ⟨true, 3, [.slice a n c, .int .i64 0, .int .i64 x]⟩ → ∃ b, Value.pointer (some ⟨hn h .mk, 0, none⟩) = .pointer (some ⟨b, 0, none⟩) ∧ CurOk h2 b a n c := by
      rintro _ rfl
      refine ⟨_, rfl, ⟨0, x, by rw [hg_push, hnn, hk_t], by omega⟩, ro.1, fun j hj => ?_⟩
      obtain ⟨b', off, w, z, cs, y, h1, h2, h3, h4⟩ := ro.2 j hj
      have hne : b' ≠ hn h .mk := by omega
      exact ⟨b', off, w, z, cs, y, h1, by rw [hg_push, show (b' == hn h .mk) = false by simpa using hne, hk_f]; exact h2, hne, h4⟩
    repeat (first | rw [kz_o] | rw [kz_r0] | simp -dsimp -implicitDefEqProofs only [go_sem, ↓reduceIte, Nat.reduceEqDiff, Nat.reduceBEq, and_self, decide_true, decide_false, ne_eq, not_false_eq_true, Nat.reduceAdd, Nat.reduceLeDiff, Nat.reduceMul, Nat.zero_add, Nat.add_zero, Nat.mul_one, Int.reduceLE, Int.reduceLT, Int.reduceBEq, e0, e3, e4])
    refine gz_dec (fun h1 => ?_) (fun h1 => ?_)
    · repeat (first | rw [kz_o] | rw [kz_r0] | simp -dsimp -implicitDefEqProofs only [go_sem, ↓reduceIte, Nat.reduceEqDiff, Nat.reduceBEq, and_self, decide_true, decide_false, ne_eq, not_false_eq_true, Nat.reduceAdd, Nat.reduceLeDiff, Nat.reduceMul, Nat.zero_add, Nat.add_zero, Nat.mul_one, Int.reduceLE, Int.reduceLT, Int.reduceBEq, e0, e3, e4, h1])
      refine gz_dec (fun h2 => ?_) (fun h2 => ?_)
      · obtain ⟨b', off, w, z, cs, y, ha, hb', hlt, hy⟩ := ro.2 i.toNat (by omega)
        subst ha
        have hi2 : 0 ≤ i ∧ i < (n : Int) := ⟨hi, h1⟩
        repeat (first | rw [kz_o] | rw [kz_r0] | simp -dsimp -implicitDefEqProofs only [go_sem, ↓reduceIte, Nat.reduceEqDiff, Nat.reduceBEq, and_self, decide_true, decide_false, ne_eq, not_false_eq_true, Nat.reduceAdd, Nat.reduceLeDiff, Nat.reduceMul, Nat.zero_add, Nat.add_zero, Nat.mul_one, Int.reduceLE, Int.reduceLT, Int.reduceBEq, e0, e3, e4, hi2, hb', hy, h2])
        refine ⟨k - 1, by omega, rfl, ?_, ?x, i + 1, ?_, ?_, by omega, by omega⟩
        case x => exact (Go.bits .and .i64 (IntKind.i64.wrap (IntKind.i64.wrap (IntKind.i64.wrap (x * 131) + IntKind.i64.wrap y) + 7)) 1073741823)
        · simp -dsimp -implicitDefEqProofs only [go_sem, ↓reduceIte, Nat.reduceEqDiff, Nat.reduceBEq, and_self, decide_true, decide_false, ne_eq, not_false_eq_true, Nat.reduceAdd, Nat.reduceLeDiff, Nat.reduceMul, Nat.zero_add, Nat.add_zero, Nat.mul_one, Int.reduceLE, Int.reduceLT, Int.reduceBEq]
        · simp -dsimp -implicitDefEqProofs only [go_sem, ↓reduceIte, Nat.reduceEqDiff, Nat.reduceBEq, and_self, decide_true, decide_false, ne_eq, not_false_eq_true, Nat.reduceAdd, Nat.reduceLeDiff, Nat.reduceMul, Nat.zero_add, Nat.add_zero, Nat.mul_one, Int.reduceLE, Int.reduceLT, Int.reduceBEq]
        · have hw : IntKind.i64.wrap (i + 1) = i + 1 := by have := ro.1; rw [wrap_i64] <;> omega
          simp -dsimp -implicitDefEqProofs only [go_sem, ↓reduceIte, Nat.reduceEqDiff, Nat.reduceBEq, and_self, decide_true, decide_false, ne_eq, not_false_eq_true, Nat.reduceAdd, Nat.reduceLeDiff, Nat.reduceMul, Nat.zero_add, Nat.add_zero, Nat.mul_one, Int.reduceLE, Int.reduceLT, Int.reduceBEq, hw]
      · repeat (first | rw [kz_o] | rw [kz_r0] | simp -dsimp -implicitDefEqProofs only [go_sem, ↓reduceIte, Nat.reduceEqDiff, Nat.reduceBEq, and_self, decide_true, decide_false, ne_eq, not_false_eq_true, Nat.reduceAdd, Nat.reduceLeDiff, Nat.reduceMul, Nat.zero_add, Nat.add_zero, Nat.mul_one, Int.reduceLE, Int.reduceLT, Int.reduceBEq, e0, e3, e4, h1, h2])
        exact fin _ rfl
    · repeat (first | rw [kz_o] | rw [kz_r0] | simp -dsimp -implicitDefEqProofs only [go_sem, ↓reduceIte, Nat.reduceEqDiff, Nat.reduceBEq, and_self, decide_true, decide_false, ne_eq, not_false_eq_true, Nat.reduceAdd, Nat.reduceLeDiff, Nat.reduceMul, Nat.zero_add, Nat.add_zero, Nat.mul_one, Int.reduceLE, Int.reduceLT, Int.reduceBEq, e0, e3, e4, h1])
      exact fin _ rfl

theorem draw_ok {a : Option Addr} {n c : Nat} {h : Heap} (ro : Row8 h a n) :
    WC Try.prog W0 20 [.slice a n c] h (fun v h' => ∃ r, v = .int .u64 r ∧ 0 ≤ r ∧ r < 18446744073709551616) := by
  refine start (P := Try.prog) [[0], [0]] (by kernel_rfl) Try.func20 rfl (by decide) (by decide +kernel) (rs := [.tmp 2]) rfl rfl (Nat.le_of_ble_eq_true rfl) ?_
  repeat (first | rw [kz_o] | rw [kz_r0] | simp -dsimp -implicitDefEqProofs only [go_sem, ↓reduceIte, Nat.reduceEqDiff, Nat.reduceBEq, and_self, decide_true, decide_false, ne_eq, not_false_eq_true, Nat.reduceAdd, Nat.reduceLeDiff, Nat.reduceMul, Nat.zero_add, Nat.add_zero, Nat.mul_one, Int.reduceLE, Int.reduceLT, Int.reduceBEq])
  refine wz_intro (new_ok ro) ?_
  rintro _ h' ⟨b, rfl, co⟩
  repeat (first | rw [kz_o] | rw [kz_r0] | simp -dsimp -implicitDefEqProofs only [go_sem, ↓reduceIte, Nat.reduceEqDiff, Nat.reduceBEq, and_self, decide_true, decide_false, ne_eq, not_false_eq_true, Nat.reduceAdd, Nat.reduceLeDiff, Nat.reduceMul, Nat.zero_add, Nat.add_zero, Nat.mul_one, Int.reduceLE, Int.reduceLT, Int.reduceBEq])
  refine wz_intro (state_ok co) ?_
  rintro _ h' ⟨⟨r, rfl, h1, h2⟩, co⟩
  repeat (first | rw [kz_o] | rw [kz_r0] | simp -dsimp -implicitDefEqProofs only [go_sem, ↓reduceIte, Nat.reduceEqDiff, Nat.reduceBEq, and_self, decide_true, decide_false, ne_eq, not_false_eq_true, Nat.reduceAdd, Nat.reduceLeDiff, Nat.reduceMul, Nat.zero_add, Nat.add_zero, Nat.mul_one, Int.reduceLE, Int.reduceLT, Int.reduceBEq])
  exact ⟨_, rfl, h1, h2⟩
end Go.Ai
