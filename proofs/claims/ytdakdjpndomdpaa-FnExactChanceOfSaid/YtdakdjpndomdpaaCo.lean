/- The walk of the law on ChanceOf. -/
import Derived.Test.YtdakdjpndomdpaaCn
set_option linter.unusedSimpArgs false
set_option linter.unusedVariables false
set_option maxRecDepth 20000
namespace Go.Ai
open Go.Proofs
variable {W0 : World}
theorem Own.len {N n : Nat} {h : Heap} {v : Value} {zs : List Int} (o : Own N h v 1 n (zs.map (.int .i64))) : n = zs.length := by have := o.1; simp at this; omega
theorem Own.above {N n z : Nat} {h : Heap} {v : Value} {cs : List Value} (o : Own N h v z n cs) {b : Nat} (hb : blockOf v = some b) : N ≤ b ∧ b < hn h .mk := by
  obtain ⟨_, a, c, rfl, hcase⟩ := o
  rcases hcase with ⟨rfl, _⟩ | ⟨b', rfl, h1, h2, _⟩
  · cases hb
  · cases hb; exact ⟨h1, h2⟩
/-- What a mark elsewhere leaves as it was. -/
theorem Own.beside {N n z : Nat} {h h' : Heap} {v x : Value} {cs : List Value} (o : Own N h v z n cs) (hs : ∀ b, blockOf x ≠ some b → hg h' b .mk = hg h b .mk) (hn' : hn h' .mk = hn h .mk) (hd : ∀ b, blockOf v = some b → blockOf x ≠ some b) : Own N h' v z n cs := by
  obtain ⟨h1, a, c, rfl, hcase⟩ := o
  refine ⟨h1, a, c, rfl, hcase.imp_right ?_⟩
  rintro ⟨b, rfl, h2, h3, h4⟩
  exact ⟨b, rfl, h2, by omega, by rw [hs b (hd b rfl)]; exact h4⟩
theorem le_beside {N n z : Nat} {h h' h0 : Heap} {x : Value} {cs : List Value} (o : Own N h x z n cs) (hs : ∀ b, blockOf x ≠ some b → hg h' b .mk = hg h b .mk) (hn' : hn h' .mk = hn h .mk) (hN : hn h0 .mk ≤ N) (l : h0.le h) : h0.le h' := by
  refine ⟨by have := l.n; unfold hn at *; omega, fun b hb => ?_⟩
  have : blockOf x ≠ some b := fun e => by have := o.above e; unfold hn at *; omega
  have h2 := hs b this
  exact (show h'.get b = h.get b from h2).trans (l.2 b hb)
theorem copy_ok {a : Option Addr} {n c : Nat} {zs : List Int} {h : Heap} (r : Row1 h a n (zs.map (.int .i64))) (hn0 : n ≤ 1048576) :
    WC Try.prog W0 27 [.slice a n c] h (fun v h' => Own (hn h .mk) h' v 1 n (zs.map (.int .i64)) ∧ h.le h') := by
  refine (toIntS_ok (c := c) r hn0).mono ?_
  rintro v h' ⟨rfl, rfl⟩
  have hlen := r.1
  simp at hlen
  exact ⟨⟨by simp; omega, _, _, rfl, .inr ⟨hn h .mk, rfl, Nat.le_refl _, by simp -dsimp -implicitDefEqProofs only [go_sem, ↓reduceIte, Nat.reduceEqDiff, Nat.reduceBEq, and_self, decide_true, decide_false, Bool.not_true, Bool.not_false, ne_eq, not_false_eq_true, Nat.reduceAdd, Nat.reduceLeDiff, Nat.reduceMul, Nat.zero_add, Nat.add_zero, Nat.mul_one, Int.reduceLE, Int.reduceLT, Int.reduceBEq], by rw [hg_push, show (hn h .mk == hn h .mk) = true by simp, hk_t]⟩⟩, Heap.le_push _ _⟩
theorem same_ok {N N' n n' : Nat} {v v' : Value} {zs ys : List Int} {h : Heap} (o : Own N h v 1 n (zs.map (.int .i64))) (o' : Own N' h v' 1 n' (ys.map (.int .i64))) (hn0 : n ≤ 9223372036854775807) (e : zs = ys) :
    WC Try.prog W0 29 [v, v'] h (fun r h' => r = .bool true ∧ h' = h) := by
  obtain ⟨a, c, rfl, r⟩ := o.row
  obtain ⟨a', c', rfl, r'⟩ := o'.row
  refine (eqIntS_ok r r' hn0).mono ?_
  rintro r h' ⟨⟨q, rfl, hq⟩, rfl⟩
  exact ⟨by rw [hq e], rfl⟩
theorem still_ok {N n : Nat} {v : Value} {ms : List Int} {h : Heap} {k0 : Int} (o : Own N h v 1 n (ms.map (.int .i64))) (hms : ∀ j : Nat, j < n → ms[j]? = some (k0 + j)) (hn0 : n ≤ 9223372036854775807) (hk0 : 0 ≤ k0 ∧ k0 + n ≤ 9223372036854775807) :
    WC Try.prog W0 31 [v, .int .i64 k0] h (fun r h' => r = .int .i64 (k0 + n) ∧ h' = h) := by
  obtain ⟨a, c, rfl, r⟩ := o.row
  exact heldIntS_ok r hms hn0 hk0
theorem implOwn_ok {N N' n n' : Nat} {v v' : Value} {lo top : List Int} {h : Heap} (o : Own N h v 1 n (lo.map (.int .i64))) (o' : Own N' h v' 1 n' (top.map (.int .i64))) (hn0 : n ≤ 1048576) (hn1 : n' ≤ 1048576) :
    WC Try.prog W0 28 [v, v'] h (fun v h' => (∃ m, Own (hn h .mk) h' v 1 m ((chanceI lo top).map (.int .i64))) ∧ h.le h') := by
  obtain ⟨a, c, rfl, r⟩ := o.row
  obtain ⟨a', c', rfl, r'⟩ := o'.row
  exact implChanceOf_ok r r' hn0 hn1
theorem specOwn_ok {N N' n n' : Nat} {v v' : Value} {lo top : List Int} {h : Heap} (o : Own N h v 1 n (lo.map (.int .i64))) (o' : Own N' h v' 1 n' (top.map (.int .i64))) (hn0 : n ≤ 1048576) (hn1 : n' ≤ 1048576) :
    WC Try.prog W0 26 [v, v'] h (fun v h' => (∃ m, Own (hn h .mk) h' v 1 m ((chanceI lo top).map (.int .i64))) ∧ h.le h') := by
  obtain ⟨a, c, rfl, r⟩ := o.row
  obtain ⟨a', c', rfl, r'⟩ := o'.row
  exact specChanceOf_ok r r' hn0 hn1
theorem chance_len {lo top : List Int} : (chanceI lo top).length ≤ top.length := by
  unfold chanceI; split <;> simp

theorem lawChanceOf_ok {a a' : Option Addr} {n c n' c' : Nat} {lo top : List Int} {h : Heap} (r : Row1 h a n (lo.map (.int .i64))) (r' : Row1 h a' n' (top.map (.int .i64))) :
    WC Try.prog W0 7 [.slice a n c, .slice a' n' c'] h (fun v h' => v = .bool true) := by
  refine start (P := Try.prog) [[0, 1], [0, 1], [], [0, 1], [], [0, 1], [0, 1, 5], [0, 1, 5, 6], [0, 1, 5, 6, 7], [0, 1, 5, 6, 7, 8], [], [0, 1, 5, 6, 7, 8], [], [0, 1, 5, 6, 7, 8], [], [0, 1, 5, 6, 7, 8], [0, 1, 5, 6, 7, 8, 9], [0, 1, 5, 7, 8, 9], [0, 1, 5, 8, 9], [], [0, 1, 5, 8], [0, 1, 5, 8, 10], [0, 1, 5, 8, 10], [0, 1, 5, 8, 10, 11], [0, 1, 5, 8, 10, 11], [], [0, 1, 5, 8, 10, 11], [], [0, 1, 5, 8, 10], [5, 8, 10, 12], [], [8, 10], [8, 10, 11], [10, 11], [], [10, 11], [], []] (by kernel_rfl) Try.func7 rfl (by decide) (by decide +kernel) (rs := [.tmp 4]) rfl rfl (Nat.le_of_ble_eq_true rfl) ?_
  repeat (first | rw [kz_o] | rw [kz_r0] | simp -dsimp -implicitDefEqProofs only [go_sem, ↓reduceIte, Nat.reduceEqDiff, Nat.reduceBEq, and_self, decide_true, decide_false, Bool.not_true, Bool.not_false, ne_eq, not_false_eq_true, Nat.reduceAdd, Nat.reduceLeDiff, Nat.reduceMul, Nat.zero_add, Nat.add_zero, Nat.mul_one, Int.reduceLE, Int.reduceLT, Int.reduceBEq])
  refine gz_dec (fun c1 => ?_) (fun c1 => ?_)
  · repeat (first | rw [kz_o] | rw [kz_r0] | simp -dsimp -implicitDefEqProofs only [go_sem, ↓reduceIte, Nat.reduceEqDiff, Nat.reduceBEq, and_self, decide_true, decide_false, Bool.not_true, Bool.not_false, ne_eq, not_false_eq_true, Nat.reduceAdd, Nat.reduceLeDiff, Nat.reduceMul, Nat.zero_add, Nat.add_zero, Nat.mul_one, Int.reduceLE, Int.reduceLT, Int.reduceBEq])
    rfl
  repeat (first | rw [kz_o] | rw [kz_r0] | simp -dsimp -implicitDefEqProofs only [go_sem, ↓reduceIte, Nat.reduceEqDiff, Nat.reduceBEq, and_self, decide_true, decide_false, Bool.not_true, Bool.not_false, ne_eq, not_false_eq_true, Nat.reduceAdd, Nat.reduceLeDiff, Nat.reduceMul, Nat.zero_add, Nat.add_zero, Nat.mul_one, Int.reduceLE, Int.reduceLT, Int.reduceBEq])
  refine gz_dec (fun c2 => ?_) (fun c2 => ?_)
  · repeat (first | rw [kz_o] | rw [kz_r0] | simp -dsimp -implicitDefEqProofs only [go_sem, ↓reduceIte, Nat.reduceEqDiff, Nat.reduceBEq, and_self, decide_true, decide_false, Bool.not_true, Bool.not_false, ne_eq, not_false_eq_true, Nat.reduceAdd, Nat.reduceLeDiff, Nat.reduceMul, Nat.zero_add, Nat.add_zero, Nat.mul_one, Int.reduceLE, Int.reduceLT, Int.reduceBEq])
    rfl
  have hn0 : n ≤ 1048576 := by omega
  have hn1 : n' ≤ 1048576 := by omega
  have hcl := chance_len (lo := lo) (top := top)
  have hlt : n' = top.length := by have := r'.1; simpa using this
  repeat (first | rw [kz_o] | rw [kz_r0] | simp -dsimp -implicitDefEqProofs only [go_sem, ↓reduceIte, Nat.reduceEqDiff, Nat.reduceBEq, and_self, decide_true, decide_false, Bool.not_true, Bool.not_false, ne_eq, not_false_eq_true, Nat.reduceAdd, Nat.reduceLeDiff, Nat.reduceMul, Nat.zero_add, Nat.add_zero, Nat.mul_one, Int.reduceLE, Int.reduceLT, Int.reduceBEq])
  refine wz_intro (copy_ok r hn0) ?_
  rintro x1 h1 ⟨o1, l1⟩
  repeat (first | rw [kz_o] | rw [kz_r0] | simp -dsimp -implicitDefEqProofs only [go_sem, ↓reduceIte, Nat.reduceEqDiff, Nat.reduceBEq, and_self, decide_true, decide_false, Bool.not_true, Bool.not_false, ne_eq, not_false_eq_true, Nat.reduceAdd, Nat.reduceLeDiff, Nat.reduceMul, Nat.zero_add, Nat.add_zero, Nat.mul_one, Int.reduceLE, Int.reduceLT, Int.reduceBEq])
  refine wz_intro (copy_ok (r'.mono l1) hn1) ?_
  rintro x2 h2 ⟨o2, l2⟩
  repeat (first | rw [kz_o] | rw [kz_r0] | simp -dsimp -implicitDefEqProofs only [go_sem, ↓reduceIte, Nat.reduceEqDiff, Nat.reduceBEq, and_self, decide_true, decide_false, Bool.not_true, Bool.not_false, ne_eq, not_false_eq_true, Nat.reduceAdd, Nat.reduceLeDiff, Nat.reduceMul, Nat.zero_add, Nat.add_zero, Nat.mul_one, Int.reduceLE, Int.reduceLT, Int.reduceBEq])
  refine wz_intro (specOwn_ok (o1.keep l2) o2 hn0 hn1) ?_
  rintro w0 h3 ⟨⟨mw, ow⟩, l3⟩
  have l03 := Heap.le_trans l1 (Heap.le_trans l2 l3)
  repeat (first | rw [kz_o] | rw [kz_r0] | simp -dsimp -implicitDefEqProofs only [go_sem, ↓reduceIte, Nat.reduceEqDiff, Nat.reduceBEq, and_self, decide_true, decide_false, Bool.not_true, Bool.not_false, ne_eq, not_false_eq_true, Nat.reduceAdd, Nat.reduceLeDiff, Nat.reduceMul, Nat.zero_add, Nat.add_zero, Nat.mul_one, Int.reduceLE, Int.reduceLT, Int.reduceBEq])
  refine wz_intro (copy_ok (r.mono l03) hn0) ?_
  rintro x3 h4 ⟨o3, l4⟩
  have l04 := Heap.le_trans l03 l4
  repeat (first | rw [kz_o] | rw [kz_r0] | simp -dsimp -implicitDefEqProofs only [go_sem, ↓reduceIte, Nat.reduceEqDiff, Nat.reduceBEq, and_self, decide_true, decide_false, Bool.not_true, Bool.not_false, ne_eq, not_false_eq_true, Nat.reduceAdd, Nat.reduceLeDiff, Nat.reduceMul, Nat.zero_add, Nat.add_zero, Nat.mul_one, Int.reduceLE, Int.reduceLT, Int.reduceBEq])
  refine wz_intro (copy_ok (r'.mono l04) hn1) ?_
  rintro x4 h5 ⟨o4, l5⟩
  have l05 := Heap.le_trans l04 l5
  repeat (first | rw [kz_o] | rw [kz_r0] | simp -dsimp -implicitDefEqProofs only [go_sem, ↓reduceIte, Nat.reduceEqDiff, Nat.reduceBEq, and_self, decide_true, decide_false, Bool.not_true, Bool.not_false, ne_eq, not_false_eq_true, Nat.reduceAdd, Nat.reduceLeDiff, Nat.reduceMul, Nat.zero_add, Nat.add_zero, Nat.mul_one, Int.reduceLE, Int.reduceLT, Int.reduceBEq])
  refine wz_intro (implOwn_ok (o3.keep l5) o4 hn0 hn1) ?_
  rintro g0 h6 ⟨⟨mg, og⟩, l6⟩
  have l06 := Heap.le_trans l05 l6
  have hmw := ow.len
  have hmg := og.len
  have ow6 := ow.keep (Heap.le_trans l4 (Heap.le_trans l5 l6))
  have o36 := (o3.keep l5).keep l6
  have o46 := o4.keep l6
  repeat (first | rw [kz_o] | rw [kz_r0] | simp -dsimp -implicitDefEqProofs only [go_sem, ↓reduceIte, Nat.reduceEqDiff, Nat.reduceBEq, and_self, decide_true, decide_false, Bool.not_true, Bool.not_false, ne_eq, not_false_eq_true, Nat.reduceAdd, Nat.reduceLeDiff, Nat.reduceMul, Nat.zero_add, Nat.add_zero, Nat.mul_one, Int.reduceLE, Int.reduceLT, Int.reduceBEq])
  refine wz_intro (same_ok og ow6 (by omega) rfl) ?_
  rintro _ h6 ⟨rfl, rfl⟩
  repeat (first | rw [kz_o] | rw [kz_r0] | simp -dsimp -implicitDefEqProofs only [go_sem, ↓reduceIte, Nat.reduceEqDiff, Nat.reduceBEq, and_self, decide_true, decide_false, Bool.not_true, Bool.not_false, ne_eq, not_false_eq_true, Nat.reduceAdd, Nat.reduceLeDiff, Nat.reduceMul, Nat.zero_add, Nat.add_zero, Nat.mul_one, Int.reduceLE, Int.reduceLT, Int.reduceBEq])
  refine wz_intro (copy_ok (r.mono l06) hn0) ?_
  rintro x5 h7 ⟨o5, l7⟩
  repeat (first | rw [kz_o] | rw [kz_r0] | simp -dsimp -implicitDefEqProofs only [go_sem, ↓reduceIte, Nat.reduceEqDiff, Nat.reduceBEq, and_self, decide_true, decide_false, Bool.not_true, Bool.not_false, ne_eq, not_false_eq_true, Nat.reduceAdd, Nat.reduceLeDiff, Nat.reduceMul, Nat.zero_add, Nat.add_zero, Nat.mul_one, Int.reduceLE, Int.reduceLT, Int.reduceBEq])
  refine wz_intro (same_ok (o36.keep l7) o5 (by omega) rfl) ?_
  rintro _ h7 ⟨rfl, rfl⟩
  have l07 := Heap.le_trans l06 l7
  repeat (first | rw [kz_o] | rw [kz_r0] | simp -dsimp -implicitDefEqProofs only [go_sem, ↓reduceIte, Nat.reduceEqDiff, Nat.reduceBEq, and_self, decide_true, decide_false, Bool.not_true, Bool.not_false, ne_eq, not_false_eq_true, Nat.reduceAdd, Nat.reduceLeDiff, Nat.reduceMul, Nat.zero_add, Nat.add_zero, Nat.mul_one, Int.reduceLE, Int.reduceLT, Int.reduceBEq])
  refine wz_intro (copy_ok (r'.mono l07) hn1) ?_
  rintro x6 h8 ⟨o6, l8⟩
  repeat (first | rw [kz_o] | rw [kz_r0] | simp -dsimp -implicitDefEqProofs only [go_sem, ↓reduceIte, Nat.reduceEqDiff, Nat.reduceBEq, and_self, decide_true, decide_false, Bool.not_true, Bool.not_false, ne_eq, not_false_eq_true, Nat.reduceAdd, Nat.reduceLeDiff, Nat.reduceMul, Nat.zero_add, Nat.add_zero, Nat.mul_one, Int.reduceLE, Int.reduceLT, Int.reduceBEq])
  refine wz_intro (same_ok ((o46.keep l7).keep l8) o6 (by omega) rfl) ?_
  rintro _ h8 ⟨rfl, rfl⟩
  have l08 := Heap.le_trans l07 l8
  have l68 := Heap.le_trans l7 l8
  have o38 := o36.keep l68
  have o48 := o46.keep l68
  have og8 := og.keep l68
  have ow8 := ow6.keep l68
  repeat (first | rw [kz_o] | rw [kz_r0] | simp -dsimp -implicitDefEqProofs only [go_sem, ↓reduceIte, Nat.reduceEqDiff, Nat.reduceBEq, and_self, decide_true, decide_false, Bool.not_true, Bool.not_false, ne_eq, not_false_eq_true, Nat.reduceAdd, Nat.reduceLeDiff, Nat.reduceMul, Nat.zero_add, Nat.add_zero, Nat.mul_one, Int.reduceLE, Int.reduceLT, Int.reduceBEq])
  have d3 : ∀ b, blockOf x3 = some b → hn h3 .mk ≤ b ∧ b < hn h4 .mk := fun b => o3.above
  have d4 : ∀ b, blockOf x4 = some b → hn h4 .mk ≤ b ∧ b < hn h5 .mk := fun b => o4.above
  have dg : ∀ b, blockOf g0 = some b → hn h5 .mk ≤ b := fun b hb => (og.above hb).1
  have dw : ∀ b, blockOf w0 = some b → b < hn h3 .mk := fun b hb => (ow.above hb).2
  have n03 := l03.n
  have n4 := l4.n
  have n5 := l5.n
  refine wz_intro (mark_ok o38 (by omega) (by omega)) ?_
  rintro _ h9 ⟨rfl, _, e9, s9⟩
  have o49 := o48.beside s9 e9 fun b hb hb' => by have := d3 b hb'; have := d4 b hb; omega
  have og9 := og8.beside s9 e9 fun b hb hb' => by have := d3 b hb'; have := dg b hb; omega
  have ow9 := ow8.beside s9 e9 fun b hb hb' => by have := d3 b hb'; have := dw b hb; omega
  have l09 := le_beside o38 s9 e9 n03 l08
  repeat (first | rw [kz_o] | rw [kz_r0] | simp -dsimp -implicitDefEqProofs only [go_sem, ↓reduceIte, Nat.reduceEqDiff, Nat.reduceBEq, and_self, decide_true, decide_false, Bool.not_true, Bool.not_false, ne_eq, not_false_eq_true, Nat.reduceAdd, Nat.reduceLeDiff, Nat.reduceMul, Nat.zero_add, Nat.add_zero, Nat.mul_one, Int.reduceLE, Int.reduceLT, Int.reduceBEq])
  refine wz_intro (mark_ok o49 (by omega) (by omega)) ?_
  rintro _ h10 ⟨rfl, _, e10, s10⟩
  have og10 := og9.beside s10 e10 fun b hb hb' => by have := d4 b hb'; have := dg b hb; omega
  have ow10 := ow9.beside s10 e10 fun b hb hb' => by have := d4 b hb'; have := dw b hb; omega
  have l010 := le_beside o49 s10 e10 (by omega) l09
  have hk1 : ¬ ((1 : Int) + n + n' < 0) := by omega
  repeat (first | rw [kz_o] | rw [kz_r0] | simp -dsimp -implicitDefEqProofs only [go_sem, ↓reduceIte, Nat.reduceEqDiff, Nat.reduceBEq, and_self, decide_true, decide_false, Bool.not_true, Bool.not_false, ne_eq, not_false_eq_true, Nat.reduceAdd, Nat.reduceLeDiff, Nat.reduceMul, Nat.zero_add, Nat.add_zero, Nat.mul_one, Int.reduceLE, Int.reduceLT, Int.reduceBEq, hk1])
  refine wz_intro (same_ok og10 ow10 (by omega) rfl) ?_
  rintro _ h10 ⟨rfl, rfl⟩
  repeat (first | rw [kz_o] | rw [kz_r0] | simp -dsimp -implicitDefEqProofs only [go_sem, ↓reduceIte, Nat.reduceEqDiff, Nat.reduceBEq, and_self, decide_true, decide_false, Bool.not_true, Bool.not_false, ne_eq, not_false_eq_true, Nat.reduceAdd, Nat.reduceLeDiff, Nat.reduceMul, Nat.zero_add, Nat.add_zero, Nat.mul_one, Int.reduceLE, Int.reduceLT, Int.reduceBEq, hk1])
  refine wz_intro (mark_ok og10 (by omega) (by omega)) ?_
  rintro _ h11 ⟨rfl, ⟨ms, om, hms⟩, e11, s11⟩
  have ow11 := ow10.beside s11 e11 fun b hb hb' => by have := dg b hb'; have := dw b hb; omega
  have l011 := le_beside og10 s11 e11 (by omega) l010
  repeat (first | rw [kz_o] | rw [kz_r0] | simp -dsimp -implicitDefEqProofs only [go_sem, ↓reduceIte, Nat.reduceEqDiff, Nat.reduceBEq, and_self, decide_true, decide_false, Bool.not_true, Bool.not_false, ne_eq, not_false_eq_true, Nat.reduceAdd, Nat.reduceLeDiff, Nat.reduceMul, Nat.zero_add, Nat.add_zero, Nat.mul_one, Int.reduceLE, Int.reduceLT, Int.reduceBEq])
  refine wz_intro (still_ok om hms (by omega) (by omega)) ?_
  rintro _ h11 ⟨rfl, rfl⟩
  have hk2 : ¬ ((1 : Int) + mg < 0) := by omega
  repeat (first | rw [kz_o] | rw [kz_r0] | simp -dsimp -implicitDefEqProofs only [go_sem, ↓reduceIte, Nat.reduceEqDiff, Nat.reduceBEq, and_self, decide_true, decide_false, Bool.not_true, Bool.not_false, ne_eq, not_false_eq_true, Nat.reduceAdd, Nat.reduceLeDiff, Nat.reduceMul, Nat.zero_add, Nat.add_zero, Nat.mul_one, Int.reduceLE, Int.reduceLT, Int.reduceBEq, hk2, eq_self, not_true_eq_false])
  refine wz_intro (copy_ok (r.mono l011) hn0) ?_
  rintro y1 h12 ⟨p1, l12⟩
  have l012 := Heap.le_trans l011 l12
  repeat (first | rw [kz_o] | rw [kz_r0] | simp -dsimp -implicitDefEqProofs only [go_sem, ↓reduceIte, Nat.reduceEqDiff, Nat.reduceBEq, and_self, decide_true, decide_false, Bool.not_true, Bool.not_false, ne_eq, not_false_eq_true, Nat.reduceAdd, Nat.reduceLeDiff, Nat.reduceMul, Nat.zero_add, Nat.add_zero, Nat.mul_one, Int.reduceLE, Int.reduceLT, Int.reduceBEq])
  refine wz_intro (copy_ok (r'.mono l012) hn1) ?_
  rintro y2 h13 ⟨p2, l13⟩
  repeat (first | rw [kz_o] | rw [kz_r0] | simp -dsimp -implicitDefEqProofs only [go_sem, ↓reduceIte, Nat.reduceEqDiff, Nat.reduceBEq, and_self, decide_true, decide_false, Bool.not_true, Bool.not_false, ne_eq, not_false_eq_true, Nat.reduceAdd, Nat.reduceLeDiff, Nat.reduceMul, Nat.zero_add, Nat.add_zero, Nat.mul_one, Int.reduceLE, Int.reduceLT, Int.reduceBEq])
  refine wz_intro (implOwn_ok (p1.keep l13) p2 hn0 hn1) ?_
  rintro g1 h14 ⟨⟨mg2, og2⟩, l14⟩
  have l114 := Heap.le_trans l12 (Heap.le_trans l13 l14)
  have hmg2 := og2.len
  repeat (first | rw [kz_o] | rw [kz_r0] | simp -dsimp -implicitDefEqProofs only [go_sem, ↓reduceIte, Nat.reduceEqDiff, Nat.reduceBEq, and_self, decide_true, decide_false, Bool.not_true, Bool.not_false, ne_eq, not_false_eq_true, Nat.reduceAdd, Nat.reduceLeDiff, Nat.reduceMul, Nat.zero_add, Nat.add_zero, Nat.mul_one, Int.reduceLE, Int.reduceLT, Int.reduceBEq])
  refine wz_intro (same_ok og2 (ow11.keep l114) (by omega) rfl) ?_
  rintro _ h14 ⟨rfl, rfl⟩
  repeat (first | rw [kz_o] | rw [kz_r0] | simp -dsimp -implicitDefEqProofs only [go_sem, ↓reduceIte, Nat.reduceEqDiff, Nat.reduceBEq, and_self, decide_true, decide_false, Bool.not_true, Bool.not_false, ne_eq, not_false_eq_true, Nat.reduceAdd, Nat.reduceLeDiff, Nat.reduceMul, Nat.zero_add, Nat.add_zero, Nat.mul_one, Int.reduceLE, Int.reduceLT, Int.reduceBEq])
  refine wz_intro (still_ok (om.keep l114) hms (by omega) (by omega)) ?_
  rintro _ h14 ⟨rfl, rfl⟩
  repeat (first | rw [kz_o] | rw [kz_r0] | simp -dsimp -implicitDefEqProofs only [go_sem, ↓reduceIte, Nat.reduceEqDiff, Nat.reduceBEq, and_self, decide_true, decide_false, Bool.not_true, Bool.not_false, ne_eq, not_false_eq_true, Nat.reduceAdd, Nat.reduceLeDiff, Nat.reduceMul, Nat.zero_add, Nat.add_zero, Nat.mul_one, Int.reduceLE, Int.reduceLT, Int.reduceBEq, hk2, eq_self, not_true_eq_false])
  rfl
end Go.Ai
