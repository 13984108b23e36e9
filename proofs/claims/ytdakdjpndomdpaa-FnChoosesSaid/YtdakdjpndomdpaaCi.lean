/- Walks over rows of numbers: what the laws use to copy, compare, mark and look again. -/
import Derived.Test.YtdakdjpndomdpaaTy
import Derived.Test.YtdakdjpndomdpaaA2
set_option linter.unusedSimpArgs false
set_option linter.unusedVariables false
set_option maxRecDepth 20000
namespace Go.Ai
open Go.Proofs
variable {W0 : World}
theorem toIntS_ok {a : Option Addr} {n c : Nat} {ss : List Int} {h : Heap} (r : Row1 h a n (ss.map (.int .i64))) (hn0 : n ≤ 1048576) :
    WC Try.prog W0 27 [.slice a n c] h (fun v h' => v = .slice (some ⟨hn h .mk, 0, none⟩) n n ∧ h' = h.push ⟨true, 1, ss.map (.int .i64)⟩) := by
  have hlen := r.1
  simp at hlen
  refine start (P := Try.prog) [[0], [0], [0, 3], [0, 3, 4], [0, 3, 4], [0, 3, 4], [3]] (by kernel_rfl) Try.func27 rfl (by decide) (by decide +kernel) (rs := [.tmp 2]) rfl rfl (Nat.le_of_ble_eq_true rfl) ?_
  repeat (first | rw [kz_o] | rw [kz_r0] | simp -dsimp -implicitDefEqProofs only [go_sem, ↓reduceIte, Nat.reduceEqDiff, Nat.reduceBEq, and_self, decide_true, decide_false, Bool.not_true, Bool.not_false, ne_eq, not_false_eq_true, Nat.reduceAdd, Nat.reduceLeDiff, Nat.reduceMul, Nat.zero_add, Nat.add_zero, Nat.mul_one, Int.reduceLE, Int.reduceLT, Int.reduceBEq])
  refine make_intro ty_el40 ty_zr3 (by decide) ⟨by omega, by simp only [Int.toNat_natCast]; have : most = 1099511627776 := rfl; omega⟩ ?_
  repeat (first | rw [kz_o] | rw [kz_r0] | simp -dsimp -implicitDefEqProofs only [go_sem, ↓reduceIte, Nat.reduceEqDiff, Nat.reduceBEq, and_self, decide_true, decide_false, Bool.not_true, Bool.not_false, ne_eq, not_false_eq_true, Nat.reduceAdd, Nat.reduceLeDiff, Nat.reduceMul, Nat.zero_add, Nat.add_zero, Nat.mul_one, Int.reduceLE, Int.reduceLT, Int.reduceBEq])
  refine lz_intro (fun k e h' => look e 0 .mk = .slice a n c ∧ look e 3 .mk = .slice (some ⟨hn h .mk, 0, none⟩) n n ∧ ∃ (i : Int) (cs : List Value), look e 4 .mk = .int .i64 i ∧ 0 ≤ i ∧ (k : Int) + i = n ∧ h' = h.push ⟨true, 1, cs⟩ ∧ cs.length = n ∧ ∀ j : Nat, (j : Int) < i → cs[j]? = (ss.map (Value.int .i64))[j]?) n ?_ ?_
  · refine ⟨?_, ?_, 0, repL (n : Int).toNat [.int .i64 0], ?_, by omega, by omega, rfl, by rw [rep_one]; simp, fun j hj => by omega⟩ <;> simp -dsimp -implicitDefEqProofs only [go_sem, ↓reduceIte, Nat.reduceEqDiff, Nat.reduceBEq, and_self, decide_true, decide_false, Bool.not_true, Bool.not_false, ne_eq, not_false_eq_true, Nat.reduceAdd, Nat.reduceLeDiff, Nat.reduceMul, Nat.zero_add, Nat.add_zero, Nat.mul_one, Int.reduceLE, Int.reduceLT, Int.reduceBEq, Int.toNat_natCast]
  · rintro k e h' ⟨e0, e3, i, cs, e4, hi, hk, rfl, hcs, hpre⟩
    repeat (first | rw [kz_o] | rw [kz_r0] | simp -dsimp -implicitDefEqProofs only [go_sem, ↓reduceIte, Nat.reduceEqDiff, Nat.reduceBEq, and_self, decide_true, decide_false, Bool.not_true, Bool.not_false, ne_eq, not_false_eq_true, Nat.reduceAdd, Nat.reduceLeDiff, Nat.reduceMul, Nat.zero_add, Nat.add_zero, Nat.mul_one, Int.reduceLE, Int.reduceLT, Int.reduceBEq, e0, e3, e4])
    refine gz_dec (fun h2 => ?_) (fun h2 => ?_)
    · obtain ⟨b, off, w, z, cs', ha, hb, hlt, hy⟩ := r.2 i.toNat (by omega)
      subst ha
      have hlen2 : i.toNat < ss.length := by omega
      rw [List.getElem?_map, List.getElem?_eq_getElem hlen2, Option.map_some] at hy
      have hi2 : 0 ≤ i ∧ i < (n : Int) := ⟨hi, h2⟩
      have hbb : (b == hn h .mk) = false := beq_lt hlt
      have hoo : (hn h .mk == hn h .mk) = true := by simp
      have hw2 : wrt cs i.toNat [.int .i64 ss[i.toNat]] = some (cs.set i.toNat (.int .i64 ss[i.toNat])) := wrt_set (by omega)
      repeat (first | rw [kz_o] | rw [kz_r0] | simp -dsimp -implicitDefEqProofs only [go_sem, ↓reduceIte, Nat.reduceEqDiff, Nat.reduceBEq, and_self, decide_true, decide_false, Bool.not_true, Bool.not_false, ne_eq, not_false_eq_true, Nat.reduceAdd, Nat.reduceLeDiff, Nat.reduceMul, Nat.zero_add, Nat.add_zero, Nat.mul_one, Int.reduceLE, Int.reduceLT, Int.reduceBEq, e0, e3, e4, hi2, hb, hy, hbb, hoo, hw2])
      have hw : IntKind.i64.wrap (i + 1) = i + 1 := by rw [wrap_i64] <;> omega
      refine ⟨k - 1, by omega, ?_, ?_, i + 1, cs.set i.toNat (.int .i64 ss[i.toNat]), ?_, by omega, by omega, rfl, by simpa using hcs, ?_⟩
      · simp -dsimp -implicitDefEqProofs only [go_sem, ↓reduceIte, Nat.reduceEqDiff, Nat.reduceBEq, and_self, decide_true, decide_false, Bool.not_true, Bool.not_false, ne_eq, not_false_eq_true, Nat.reduceAdd, Nat.reduceLeDiff, Nat.reduceMul, Nat.zero_add, Nat.add_zero, Nat.mul_one, Int.reduceLE, Int.reduceLT, Int.reduceBEq]
      · simp -dsimp -implicitDefEqProofs only [go_sem, ↓reduceIte, Nat.reduceEqDiff, Nat.reduceBEq, and_self, decide_true, decide_false, Bool.not_true, Bool.not_false, ne_eq, not_false_eq_true, Nat.reduceAdd, Nat.reduceLeDiff, Nat.reduceMul, Nat.zero_add, Nat.add_zero, Nat.mul_one, Int.reduceLE, Int.reduceLT, Int.reduceBEq]
      · simp -dsimp -implicitDefEqProofs only [go_sem, ↓reduceIte, Nat.reduceEqDiff, Nat.reduceBEq, and_self, decide_true, decide_false, Bool.not_true, Bool.not_false, ne_eq, not_false_eq_true, Nat.reduceAdd, Nat.reduceLeDiff, Nat.reduceMul, Nat.zero_add, Nat.add_zero, Nat.mul_one, Int.reduceLE, Int.reduceLT, Int.reduceBEq, hw]
      · intro j hj
        by_cases hji : j = i.toNat
        · subst hji
          rw [List.getElem?_set_self (by omega), List.getElem?_map, List.getElem?_eq_getElem hlen2, Option.map_some]
        · rw [List.getElem?_set_ne (fun e => hji e.symm)]
          exact hpre j (by omega)
    · repeat (first | rw [kz_o] | rw [kz_r0] | simp -dsimp -implicitDefEqProofs only [go_sem, ↓reduceIte, Nat.reduceEqDiff, Nat.reduceBEq, and_self, decide_true, decide_false, Bool.not_true, Bool.not_false, ne_eq, not_false_eq_true, Nat.reduceAdd, Nat.reduceLeDiff, Nat.reduceMul, Nat.zero_add, Nat.add_zero, Nat.mul_one, Int.reduceLE, Int.reduceLT, Int.reduceBEq, e0, e3, e4])
      refine ⟨rfl, ?_⟩
      have : cs = ss.map (.int .i64) := by
        apply List.ext_getElem?
        intro j
        by_cases hj : j < n
        · exact hpre j (by omega)
        · rw [List.getElem?_eq_none (by omega), List.getElem?_eq_none (by simp; omega)]
      rw [this]

theorem eqIntS_ok {a a' : Option Addr} {n n' c c' : Nat} {ss ts : List Int} {h : Heap} (r : Row1 h a n (ss.map (.int .i64))) (r' : Row1 h a' n' (ts.map (.int .i64))) (hn0 : n ≤ 9223372036854775807) :
    WC Try.prog W0 29 [.slice a n c, .slice a' n' c'] h (fun v h' => (∃ q, v = .bool q ∧ (ss = ts → q = true)) ∧ h' = h) := by
  have hlen := r.1
  have hlen' := r'.1
  simp at hlen hlen'
  refine start (P := Try.prog) [[0, 1], [0, 1], [], [0, 1], [0, 1, 5], [0, 1, 5], [0, 1, 5], [], []] (by kernel_rfl) Try.func29 rfl (by decide) (by decide +kernel) (rs := [.tmp 4]) rfl rfl (Nat.le_of_ble_eq_true rfl) ?_
  repeat (first | rw [kz_o] | rw [kz_r0] | simp -dsimp -implicitDefEqProofs only [go_sem, ↓reduceIte, Nat.reduceEqDiff, Nat.reduceBEq, and_self, decide_true, decide_false, Bool.not_true, Bool.not_false, ne_eq, not_false_eq_true, Nat.reduceAdd, Nat.reduceLeDiff, Nat.reduceMul, Nat.zero_add, Nat.add_zero, Nat.mul_one, Int.reduceLE, Int.reduceLT, Int.reduceBEq])
  refine gz_dec (fun h1 => ?_) (fun h1 => ?_)
  · repeat (first | rw [kz_o] | rw [kz_r0] | simp -dsimp -implicitDefEqProofs only [go_sem, ↓reduceIte, Nat.reduceEqDiff, Nat.reduceBEq, and_self, decide_true, decide_false, Bool.not_true, Bool.not_false, ne_eq, not_false_eq_true, Nat.reduceAdd, Nat.reduceLeDiff, Nat.reduceMul, Nat.zero_add, Nat.add_zero, Nat.mul_one, Int.reduceLE, Int.reduceLT, Int.reduceBEq])
    refine ⟨⟨_, rfl, fun he => ?_⟩, rfl⟩
    subst he; omega
  · repeat (first | rw [kz_o] | rw [kz_r0] | simp -dsimp -implicitDefEqProofs only [go_sem, ↓reduceIte, Nat.reduceEqDiff, Nat.reduceBEq, and_self, decide_true, decide_false, Bool.not_true, Bool.not_false, ne_eq, not_false_eq_true, Nat.reduceAdd, Nat.reduceLeDiff, Nat.reduceMul, Nat.zero_add, Nat.add_zero, Nat.mul_one, Int.reduceLE, Int.reduceLT, Int.reduceBEq])
    refine lz_intro (fun k e h' => h' = h ∧ look e 0 .mk = .slice a n c ∧ look e 1 .mk = .slice a' n' c' ∧ ∃ i : Int, look e 5 .mk = .int .i64 i ∧ 0 ≤ i ∧ (k : Int) + i = n) n ?_ ?_
    · refine ⟨rfl, ?_, ?_, 0, ?_, by omega, by omega⟩ <;> simp -dsimp -implicitDefEqProofs only [go_sem, ↓reduceIte, Nat.reduceEqDiff, Nat.reduceBEq, and_self, decide_true, decide_false, Bool.not_true, Bool.not_false, ne_eq, not_false_eq_true, Nat.reduceAdd, Nat.reduceLeDiff, Nat.reduceMul, Nat.zero_add, Nat.add_zero, Nat.mul_one, Int.reduceLE, Int.reduceLT, Int.reduceBEq]
    · rintro k e h ⟨rfl, e0, e1, i, e5, hi, hk⟩
      repeat (first | rw [kz_o] | rw [kz_r0] | simp -dsimp -implicitDefEqProofs only [go_sem, ↓reduceIte, Nat.reduceEqDiff, Nat.reduceBEq, and_self, decide_true, decide_false, Bool.not_true, Bool.not_false, ne_eq, not_false_eq_true, Nat.reduceAdd, Nat.reduceLeDiff, Nat.reduceMul, Nat.zero_add, Nat.add_zero, Nat.mul_one, Int.reduceLE, Int.reduceLT, Int.reduceBEq, e0, e1, e5])
      refine gz_dec (fun h2 => ?_) (fun h2 => ?_)
      · obtain ⟨b, off, w, z, cs, ha, hb, hlt, hy⟩ := r.2 i.toNat (by omega)
        obtain ⟨b', off', w', z', cs', ha', hb', hlt', hy'⟩ := r'.2 i.toNat (by omega)
        subst ha ha'
        have hl1 : i.toNat < ss.length := by omega
        have hl2 : i.toNat < ts.length := by omega
        rw [List.getElem?_map, List.getElem?_eq_getElem hl1, Option.map_some] at hy
        rw [List.getElem?_map, List.getElem?_eq_getElem hl2, Option.map_some] at hy'
        have hi2 : 0 ≤ i ∧ i < (n : Int) := ⟨hi, h2⟩
        have hi3 : 0 ≤ i ∧ i < (n' : Int) := ⟨hi, by omega⟩
        repeat (first | rw [kz_o] | rw [kz_r0] | simp -dsimp -implicitDefEqProofs only [go_sem, ↓reduceIte, Nat.reduceEqDiff, Nat.reduceBEq, and_self, decide_true, decide_false, Bool.not_true, Bool.not_false, ne_eq, not_false_eq_true, Nat.reduceAdd, Nat.reduceLeDiff, Nat.reduceMul, Nat.zero_add, Nat.add_zero, Nat.mul_one, Int.reduceLE, Int.reduceLT, Int.reduceBEq, e0, e1, e5])
        refine dq_intro [(0, []), (1, []), (2, []), (3, []), (4, []), (5, []), (6, []), (7, []), (8, [])] (by kernel_rfl) ?_
        repeat (first | rw [kz_o] | rw [kz_r0] | simp -dsimp -implicitDefEqProofs only [go_sem, ↓reduceIte, Nat.reduceEqDiff, Nat.reduceBEq, and_self, decide_true, decide_false, Bool.not_true, Bool.not_false, ne_eq, not_false_eq_true, Nat.reduceAdd, Nat.reduceLeDiff, Nat.reduceMul, Nat.zero_add, Nat.add_zero, Nat.mul_one, Int.reduceLE, Int.reduceLT, Int.reduceBEq, e0, e1, e5, hi2, hi3, hb, hy, hb', hy'])
        refine gz_dec (fun h3 => ?_) (fun h3 => ?_)
        · repeat (first | rw [kz_o] | rw [kz_r0] | simp -dsimp -implicitDefEqProofs only [go_sem, ↓reduceIte, Nat.reduceEqDiff, Nat.reduceBEq, and_self, decide_true, decide_false, Bool.not_true, Bool.not_false, ne_eq, not_false_eq_true, Nat.reduceAdd, Nat.reduceLeDiff, Nat.reduceMul, Nat.zero_add, Nat.add_zero, Nat.mul_one, Int.reduceLE, Int.reduceLT, Int.reduceBEq])
          refine ⟨⟨_, rfl, fun he => ?_⟩, rfl⟩
          subst he
          exact absurd rfl h3
        · repeat (first | rw [kz_o] | rw [kz_r0] | simp -dsimp -implicitDefEqProofs only [go_sem, ↓reduceIte, Nat.reduceEqDiff, Nat.reduceBEq, and_self, decide_true, decide_false, Bool.not_true, Bool.not_false, ne_eq, not_false_eq_true, Nat.reduceAdd, Nat.reduceLeDiff, Nat.reduceMul, Nat.zero_add, Nat.add_zero, Nat.mul_one, Int.reduceLE, Int.reduceLT, Int.reduceBEq])
          refine ⟨k - 1, by omega, rfl, ?_, ?_, i + 1, ?_, by omega, by omega⟩
          · simp -dsimp -implicitDefEqProofs only [go_sem, ↓reduceIte, Nat.reduceEqDiff, Nat.reduceBEq, and_self, decide_true, decide_false, Bool.not_true, Bool.not_false, ne_eq, not_false_eq_true, Nat.reduceAdd, Nat.reduceLeDiff, Nat.reduceMul, Nat.zero_add, Nat.add_zero, Nat.mul_one, Int.reduceLE, Int.reduceLT, Int.reduceBEq]
          · simp -dsimp -implicitDefEqProofs only [go_sem, ↓reduceIte, Nat.reduceEqDiff, Nat.reduceBEq, and_self, decide_true, decide_false, Bool.not_true, Bool.not_false, ne_eq, not_false_eq_true, Nat.reduceAdd, Nat.reduceLeDiff, Nat.reduceMul, Nat.zero_add, Nat.add_zero, Nat.mul_one, Int.reduceLE, Int.reduceLT, Int.reduceBEq]
          · have hw : IntKind.i64.wrap (i + 1) = i + 1 := by rw [wrap_i64] <;> omega
            simp -dsimp -implicitDefEqProofs only [go_sem, ↓reduceIte, Nat.reduceEqDiff, Nat.reduceBEq, and_self, decide_true, decide_false, Bool.not_true, Bool.not_false, ne_eq, not_false_eq_true, Nat.reduceAdd, Nat.reduceLeDiff, Nat.reduceMul, Nat.zero_add, Nat.add_zero, Nat.mul_one, Int.reduceLE, Int.reduceLT, Int.reduceBEq, hw]
      · repeat (first | rw [kz_o] | rw [kz_r0] | simp -dsimp -implicitDefEqProofs only [go_sem, ↓reduceIte, Nat.reduceEqDiff, Nat.reduceBEq, and_self, decide_true, decide_false, Bool.not_true, Bool.not_false, ne_eq, not_false_eq_true, Nat.reduceAdd, Nat.reduceLeDiff, Nat.reduceMul, Nat.zero_add, Nat.add_zero, Nat.mul_one, Int.reduceLE, Int.reduceLT, Int.reduceBEq, e0, e1, e5])
        exact ⟨⟨_, rfl, fun _ => rfl⟩, rfl⟩


/-- The numbers from k on. -/
def upTo (k : Int) (n : Nat) : List Int := (List.range n).map fun (j : Nat) => IntKind.i64.wrap (k + j)
theorem markIntS_ok {b n c : Nat} {cs : List Value} {h : Heap} {k0 : Int} (hb : hg h b .mk = some ⟨true, 1, cs⟩) (hlen : cs.length = n) (hn0 : n ≤ 9223372036854775807) (hk0 : 0 ≤ k0 ∧ k0 + n ≤ 9223372036854775807) :
    WC Try.prog W0 30 [.slice (some ⟨b, 0, none⟩) n c, .int .i64 k0] h (fun v h' => v = .int .i64 (k0 + n) ∧ ∃ cs' : List Value, h' = h.set b ⟨true, 1, cs'⟩ ∧ cs'.length = n ∧ ∀ j : Nat, j < n → cs'[j]? = some (.int .i64 (k0 + j))) := by
  have hoo : ∀ x : Nat, (x == x) = true := by simp
  refine start (P := Try.prog) [[0, 1], [0, 1], [0, 1, 5], [0, 1, 5], [0, 1, 5], [0, 1, 5], [1]] (by kernel_rfl) Try.func30 rfl (by decide) (by decide +kernel) (rs := [.tmp 4]) rfl rfl (Nat.le_of_ble_eq_true rfl) ?_
  repeat (first | rw [kz_o] | rw [kz_r0] | simp -dsimp -implicitDefEqProofs only [go_sem, ↓reduceIte, Nat.reduceEqDiff, Nat.reduceBEq, and_self, decide_true, decide_false, Bool.not_true, Bool.not_false, ne_eq, not_false_eq_true, Nat.reduceAdd, Nat.reduceLeDiff, Nat.reduceMul, Nat.zero_add, Nat.add_zero, Nat.mul_one, Int.reduceLE, Int.reduceLT, Int.reduceBEq])
  refine lz_intro (fun k e h' => look e 0 .mk = .slice (some ⟨b, 0, none⟩) n c ∧ ∃ (i : Int) (cs' : List Value), look e 5 .mk = .int .i64 i ∧ look e 1 .mk = .int .i64 (k0 + i) ∧ 0 ≤ i ∧ (k : Int) + i = n ∧ h' = h.set b ⟨true, 1, cs'⟩ ∧ cs'.length = n ∧ ∀ j : Nat, (j : Int) < i → cs'[j]? = some (.int .i64 (k0 + j))) n ?_ ?_
  · refine ⟨?_, 0, cs, ?_, ?_, by omega, by omega, ?_, hlen, fun j hj => by omega⟩
    · simp -dsimp -implicitDefEqProofs only [go_sem, ↓reduceIte, Nat.reduceEqDiff, Nat.reduceBEq, and_self, decide_true, decide_false, Bool.not_true, Bool.not_false, ne_eq, not_false_eq_true, Nat.reduceAdd, Nat.reduceLeDiff, Nat.reduceMul, Nat.zero_add, Nat.add_zero, Nat.mul_one, Int.reduceLE, Int.reduceLT, Int.reduceBEq]
    · simp -dsimp -implicitDefEqProofs only [go_sem, ↓reduceIte, Nat.reduceEqDiff, Nat.reduceBEq, and_self, decide_true, decide_false, Bool.not_true, Bool.not_false, ne_eq, not_false_eq_true, Nat.reduceAdd, Nat.reduceLeDiff, Nat.reduceMul, Nat.zero_add, Nat.add_zero, Nat.mul_one, Int.reduceLE, Int.reduceLT, Int.reduceBEq]
    · simp -dsimp -implicitDefEqProofs only [go_sem, ↓reduceIte, Nat.reduceEqDiff, Nat.reduceBEq, and_self, decide_true, decide_false, Bool.not_true, Bool.not_false, ne_eq, not_false_eq_true, Nat.reduceAdd, Nat.reduceLeDiff, Nat.reduceMul, Nat.zero_add, Nat.add_zero, Nat.mul_one, Int.reduceLE, Int.reduceLT, Int.reduceBEq, Int.add_zero]
    · have hb' : h.get b = some ⟨true, 1, cs⟩ := hb
      unfold Heap.set
      rw [show (fun b' => if b' = b then some (⟨true, 1, cs⟩ : Blk) else h.get b') = h.get from by funext x; by_cases hx : x = b <;> simp [hx, hb']]
  · rintro k e h' ⟨e0, i, cs', e5, e1, hi, hk, rfl, hl, hpre⟩
    repeat (first | rw [kz_o] | rw [kz_r0] | simp -dsimp -implicitDefEqProofs only [go_sem, ↓reduceIte, Nat.reduceEqDiff, Nat.reduceBEq, and_self, decide_true, decide_false, Bool.not_true, Bool.not_false, ne_eq, not_false_eq_true, Nat.reduceAdd, Nat.reduceLeDiff, Nat.reduceMul, Nat.zero_add, Nat.add_zero, Nat.mul_one, Int.reduceLE, Int.reduceLT, Int.reduceBEq, e0, e1, e5])
    refine gz_dec (fun h2 => ?_) (fun h2 => ?_)
    · have hi2 : 0 ≤ i ∧ i < (n : Int) := ⟨hi, h2⟩
      have hw2 : wrt cs' i.toNat [.int .i64 (k0 + i)] = some (cs'.set i.toNat (.int .i64 (k0 + i))) := wrt_set (by omega)
      repeat (first | rw [kz_o] | rw [kz_r0] | simp -dsimp -implicitDefEqProofs only [go_sem, ↓reduceIte, Nat.reduceEqDiff, Nat.reduceBEq, and_self, decide_true, decide_false, Bool.not_true, Bool.not_false, ne_eq, not_false_eq_true, Nat.reduceAdd, Nat.reduceLeDiff, Nat.reduceMul, Nat.zero_add, Nat.add_zero, Nat.mul_one, Int.reduceLE, Int.reduceLT, Int.reduceBEq, e0, e1, e5, hi2, hoo, hw2])
      have hw : IntKind.i64.wrap (i + 1) = i + 1 := by rw [wrap_i64] <;> omega
      have hw3 : IntKind.i64.wrap (k0 + i + 1) = k0 + (i + 1) := by rw [wrap_i64] <;> omega
      refine ⟨k - 1, by omega, ?_, i + 1, cs'.set i.toNat (.int .i64 (k0 + i)), ?_, ?_, by omega, by omega, ?_, by simpa using hl, ?_⟩
      · simp -dsimp -implicitDefEqProofs only [go_sem, ↓reduceIte, Nat.reduceEqDiff, Nat.reduceBEq, and_self, decide_true, decide_false, Bool.not_true, Bool.not_false, ne_eq, not_false_eq_true, Nat.reduceAdd, Nat.reduceLeDiff, Nat.reduceMul, Nat.zero_add, Nat.add_zero, Nat.mul_one, Int.reduceLE, Int.reduceLT, Int.reduceBEq]
      · simp -dsimp -implicitDefEqProofs only [go_sem, ↓reduceIte, Nat.reduceEqDiff, Nat.reduceBEq, and_self, decide_true, decide_false, Bool.not_true, Bool.not_false, ne_eq, not_false_eq_true, Nat.reduceAdd, Nat.reduceLeDiff, Nat.reduceMul, Nat.zero_add, Nat.add_zero, Nat.mul_one, Int.reduceLE, Int.reduceLT, Int.reduceBEq, hw]
      · simp -dsimp -implicitDefEqProofs only [go_sem, ↓reduceIte, Nat.reduceEqDiff, Nat.reduceBEq, and_self, decide_true, decide_false, Bool.not_true, Bool.not_false, ne_eq, not_false_eq_true, Nat.reduceAdd, Nat.reduceLeDiff, Nat.reduceMul, Nat.zero_add, Nat.add_zero, Nat.mul_one, Int.reduceLE, Int.reduceLT, Int.reduceBEq, hw3]
      · unfold Heap.set; congr 1; funext x; by_cases hx : x = b <;> simp [hx]
      · intro j hj
        by_cases hji : j = i.toNat
        · subst hji
          rw [List.getElem?_set_self (by omega)]
          congr 2; omega
        · rw [List.getElem?_set_ne (fun e => hji e.symm)]
          exact hpre j (by omega)
    · repeat (first | rw [kz_o] | rw [kz_r0] | simp -dsimp -implicitDefEqProofs only [go_sem, ↓reduceIte, Nat.reduceEqDiff, Nat.reduceBEq, and_self, decide_true, decide_false, Bool.not_true, Bool.not_false, ne_eq, not_false_eq_true, Nat.reduceAdd, Nat.reduceLeDiff, Nat.reduceMul, Nat.zero_add, Nat.add_zero, Nat.mul_one, Int.reduceLE, Int.reduceLT, Int.reduceBEq, e0, e1, e5])
      have hin : i = n := by omega
      subst hin
      exact ⟨rfl, cs', rfl, hl, fun j hj => hpre j (by omega)⟩
theorem heldIntS_ok {a : Option Addr} {n c : Nat} {zs : List Int} {h : Heap} {k0 : Int} (r : Row1 h a n (zs.map (.int .i64))) (hz : ∀ j : Nat, j < n → zs[j]? = some (k0 + j)) (hn0 : n ≤ 9223372036854775807) (hk0 : 0 ≤ k0 ∧ k0 + n ≤ 9223372036854775807) :
    WC Try.prog W0 31 [.slice a n c, .int .i64 k0] h (fun v h' => v = .int .i64 (k0 + n) ∧ h' = h) := by
  refine start (P := Try.prog) [[0, 1], [0, 1], [0, 1, 5], [0, 1, 5], [0, 1, 5], [], [0, 1, 5], [1]] (by kernel_rfl) Try.func31 rfl (by decide) (by decide +kernel) (rs := [.tmp 4]) rfl rfl (Nat.le_of_ble_eq_true rfl) ?_
  repeat (first | rw [kz_o] | rw [kz_r0] | simp -dsimp -implicitDefEqProofs only [go_sem, ↓reduceIte, Nat.reduceEqDiff, Nat.reduceBEq, and_self, decide_true, decide_false, Bool.not_true, Bool.not_false, ne_eq, not_false_eq_true, Nat.reduceAdd, Nat.reduceLeDiff, Nat.reduceMul, Nat.zero_add, Nat.add_zero, Nat.mul_one, Int.reduceLE, Int.reduceLT, Int.reduceBEq])
  refine lz_intro (fun k e h' => h' = h ∧ look e 0 .mk = .slice a n c ∧ ∃ i : Int, look e 5 .mk = .int .i64 i ∧ look e 1 .mk = .int .i64 (k0 + i) ∧ 0 ≤ i ∧ (k : Int) + i = n) n ?_ ?_
  · refine ⟨rfl, ?_, 0, ?_, ?_, by omega, by omega⟩
    · simp -dsimp -implicitDefEqProofs only [go_sem, ↓reduceIte, Nat.reduceEqDiff, Nat.reduceBEq, and_self, decide_true, decide_false, Bool.not_true, Bool.not_false, ne_eq, not_false_eq_true, Nat.reduceAdd, Nat.reduceLeDiff, Nat.reduceMul, Nat.zero_add, Nat.add_zero, Nat.mul_one, Int.reduceLE, Int.reduceLT, Int.reduceBEq]
    · simp -dsimp -implicitDefEqProofs only [go_sem, ↓reduceIte, Nat.reduceEqDiff, Nat.reduceBEq, and_self, decide_true, decide_false, Bool.not_true, Bool.not_false, ne_eq, not_false_eq_true, Nat.reduceAdd, Nat.reduceLeDiff, Nat.reduceMul, Nat.zero_add, Nat.add_zero, Nat.mul_one, Int.reduceLE, Int.reduceLT, Int.reduceBEq]
    · simp -dsimp -implicitDefEqProofs only [go_sem, ↓reduceIte, Nat.reduceEqDiff, Nat.reduceBEq, and_self, decide_true, decide_false, Bool.not_true, Bool.not_false, ne_eq, not_false_eq_true, Nat.reduceAdd, Nat.reduceLeDiff, Nat.reduceMul, Nat.zero_add, Nat.add_zero, Nat.mul_one, Int.reduceLE, Int.reduceLT, Int.reduceBEq, Int.add_zero]
  · rintro k e h ⟨rfl, e0, i, e5, e1, hi, hk⟩
    repeat (first | rw [kz_o] | rw [kz_r0] | simp -dsimp -implicitDefEqProofs only [go_sem, ↓reduceIte, Nat.reduceEqDiff, Nat.reduceBEq, and_self, decide_true, decide_false, Bool.not_true, Bool.not_false, ne_eq, not_false_eq_true, Nat.reduceAdd, Nat.reduceLeDiff, Nat.reduceMul, Nat.zero_add, Nat.add_zero, Nat.mul_one, Int.reduceLE, Int.reduceLT, Int.reduceBEq, e0, e1, e5])
    refine gz_dec (fun h2 => ?_) (fun h2 => ?_)
    · obtain ⟨b, off, w, z, cs, ha, hb, hlt, hy⟩ := r.2 i.toNat (by omega)
      subst ha
      rw [List.getElem?_map, hz i.toNat (by omega), Option.map_some, show k0 + (i.toNat : Int) = k0 + i by omega] at hy
      have hi2 : 0 ≤ i ∧ i < (n : Int) := ⟨hi, h2⟩
      repeat (first | rw [kz_o] | rw [kz_r0] | simp -dsimp -implicitDefEqProofs only [go_sem, ↓reduceIte, Nat.reduceEqDiff, Nat.reduceBEq, and_self, decide_true, decide_false, Bool.not_true, Bool.not_false, ne_eq, not_false_eq_true, Nat.reduceAdd, Nat.reduceLeDiff, Nat.reduceMul, Nat.zero_add, Nat.add_zero, Nat.mul_one, Int.reduceLE, Int.reduceLT, Int.reduceBEq, e0, e1, e5, hi2, hb, hy, eq_self, not_true_eq_false])
      have hw : IntKind.i64.wrap (i + 1) = i + 1 := by rw [wrap_i64] <;> omega
      have hw3 : IntKind.i64.wrap (k0 + i + 1) = k0 + (i + 1) := by rw [wrap_i64] <;> omega
      refine ⟨k - 1, by omega, rfl, ?_, i + 1, ?_, ?_, by omega, by omega⟩
      · simp -dsimp -implicitDefEqProofs only [go_sem, ↓reduceIte, Nat.reduceEqDiff, Nat.reduceBEq, and_self, decide_true, decide_false, Bool.not_true, Bool.not_false, ne_eq, not_false_eq_true, Nat.reduceAdd, Nat.reduceLeDiff, Nat.reduceMul, Nat.zero_add, Nat.add_zero, Nat.mul_one, Int.reduceLE, Int.reduceLT, Int.reduceBEq]
      · simp -dsimp -implicitDefEqProofs only [go_sem, ↓reduceIte, Nat.reduceEqDiff, Nat.reduceBEq, and_self, decide_true, decide_false, Bool.not_true, Bool.not_false, ne_eq, not_false_eq_true, Nat.reduceAdd, Nat.reduceLeDiff, Nat.reduceMul, Nat.zero_add, Nat.add_zero, Nat.mul_one, Int.reduceLE, Int.reduceLT, Int.reduceBEq, hw]
      · simp -dsimp -implicitDefEqProofs only [go_sem, ↓reduceIte, Nat.reduceEqDiff, Nat.reduceBEq, and_self, decide_true, decide_false, Bool.not_true, Bool.not_false, ne_eq, not_false_eq_true, Nat.reduceAdd, Nat.reduceLeDiff, Nat.reduceMul, Nat.zero_add, Nat.add_zero, Nat.mul_one, Int.reduceLE, Int.reduceLT, Int.reduceBEq, hw3]
    · repeat (first | rw [kz_o] | rw [kz_r0] | simp -dsimp -implicitDefEqProofs only [go_sem, ↓reduceIte, Nat.reduceEqDiff, Nat.reduceBEq, and_self, decide_true, decide_false, Bool.not_true, Bool.not_false, ne_eq, not_false_eq_true, Nat.reduceAdd, Nat.reduceLeDiff, Nat.reduceMul, Nat.zero_add, Nat.add_zero, Nat.mul_one, Int.reduceLE, Int.reduceLT, Int.reduceBEq, e0, e1, e5])
      have hin : i = n := by omega
      subst hin
      exact ⟨rfl, rfl⟩
end Go.Ai
