/- Marks in rows of one's own, and the walk of the law on ChanceOf. -/
import Derived.Test.YtdakdjpndomdpaaCm
set_option linter.unusedSimpArgs false
set_option linter.unusedVariables false
set_option maxRecDepth 20000
namespace Go.Ai
open Go.Proofs
variable {W0 : World}
theorem markNil_ok {c : Nat} {h : Heap} {k0 : Int} : WC Try.prog W0 30 [.slice none 0 c, .int .i64 k0] h (fun v h' => v = .int .i64 k0 ∧ h' = h) := by
  refine start (P := Try.prog) [[0, 1], [0, 1], [0, 1, 5], [0, 1, 5], [0, 1, 5], [0, 1, 5], [1]] (by kernel_rfl) Try.func30 rfl (by decide) (by decide +kernel) (rs := [.tmp 4]) rfl rfl (Nat.le_of_ble_eq_true rfl) ?_
  repeat (first | rw [kz_o] | rw [kz_r0] | simp -dsimp -implicitDefEqProofs only [go_sem, ↓reduceIte, Nat.reduceEqDiff, Nat.reduceBEq, and_self, decide_true, decide_false, Bool.not_true, Bool.not_false, ne_eq, not_false_eq_true, Nat.reduceAdd, Nat.reduceLeDiff, Nat.reduceMul, Nat.zero_add, Nat.add_zero, Nat.mul_one, Int.reduceLE, Int.reduceLT, Int.reduceBEq])
  refine lz_intro (fun k e h' => h' = h ∧ look e 0 .mk = .slice none 0 c ∧ look e 5 .mk = .int .i64 0 ∧ look e 1 .mk = .int .i64 k0) 0 ?_ ?_
  · refine ⟨rfl, ?_, ?_, ?_⟩ <;> simp -dsimp -implicitDefEqProofs only [go_sem, ↓reduceIte, Nat.reduceEqDiff, Nat.reduceBEq, and_self, decide_true, decide_false, Bool.not_true, Bool.not_false, ne_eq, not_false_eq_true, Nat.reduceAdd, Nat.reduceLeDiff, Nat.reduceMul, Nat.zero_add, Nat.add_zero, Nat.mul_one, Int.reduceLE, Int.reduceLT, Int.reduceBEq]
  · rintro k e h' ⟨rfl, e0, e5, e1⟩
    have hz : ((0 : Nat) : Int) = 0 := rfl
    repeat (first | rw [kz_o] | rw [kz_r0] | simp -dsimp -implicitDefEqProofs only [go_sem, ↓reduceIte, Nat.reduceEqDiff, Nat.reduceBEq, and_self, decide_true, decide_false, Bool.not_true, Bool.not_false, ne_eq, not_false_eq_true, Nat.reduceAdd, Nat.reduceLeDiff, Nat.reduceMul, Nat.zero_add, Nat.add_zero, Nat.mul_one, Int.reduceLE, Int.reduceLT, Int.reduceBEq, e0, e1, e5, hz])
    exact ⟨rfl, rfl⟩
/-- Marked: the row is still one's own, and holds the marks; no other row has changed. -/
theorem mark_ok {N n : Nat} {v : Value} {cs : List Value} {h : Heap} {k0 : Int} (ho : Own N h v 1 n cs) (hn0 : n ≤ 9223372036854775807) (hk0 : 0 ≤ k0 ∧ k0 + n ≤ 9223372036854775807) :
    WC Try.prog W0 30 [v, .int .i64 k0] h (fun r h' => r = .int .i64 (k0 + n) ∧ (∃ ms : List Int, Own N h' v 1 n (ms.map (.int .i64)) ∧ ∀ j : Nat, j < n → ms[j]? = some (k0 + j)) ∧ hn h' .mk = hn h .mk ∧ ∀ b, blockOf v ≠ some b → hg h' b .mk = hg h b .mk) := by
  obtain ⟨hlen, a, c, rfl, hcase⟩ := ho
  rcases hcase with ⟨rfl, rfl⟩ | ⟨b, rfl, hNb, hbn, hb⟩
  · refine (markNil_ok (c := c) (k0 := k0)).mono ?_
    rintro r h' ⟨rfl, rfl⟩
    exact ⟨by simp, ⟨[], Own.nil, fun j hj => by omega⟩, rfl, fun _ _ => rfl⟩
  · refine (markIntS_ok (c := c) (n := n) hb (by omega) hn0 hk0).mono ?_
    rintro r h' ⟨rfl, cs', rfl, hl, hcs'⟩
    have hms : cs' = ((List.range n).map fun (j : Nat) => k0 + (j : Int)).map (Value.int .i64) := by
      apply List.ext_getElem?
      intro j
      by_cases hj : j < n
      · rw [hcs' j hj]; simp [List.getElem?_range hj]
      · rw [List.getElem?_eq_none (by omega), List.getElem?_eq_none (by simp; omega)]
    refine ⟨rfl, ⟨(List.range n).map fun (j : Nat) => k0 + (j : Int), ⟨by simp, _, _, rfl, .inr ⟨b, rfl, hNb, hbn, ?_⟩⟩, fun j hj => by simp [List.getElem?_range hj]⟩, rfl, ?_⟩
    · rw [hg_set, show (b == b) = true by simp, hk_t, hms]
    · intro b' hb'
      have hne : (b' == b) = false := by
        have : b ≠ b' := fun e => hb' (by rw [e]; rfl)
        simp; exact fun e => this e.symm
      rw [hg_set, hne, hk_f]
end Go.Ai
