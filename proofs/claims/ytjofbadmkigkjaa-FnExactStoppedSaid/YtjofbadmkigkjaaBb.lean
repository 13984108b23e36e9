/- Walks over rows of plain cells: what the laws use to measure, copy, compare, mark and look again. -/
import Derived.Test.YtjofbadmkigkjaaBa
set_option linter.unusedSimpArgs false
set_option linter.unusedVariables false
set_option maxRecDepth 20000
namespace Go.Bi
open Go.Proofs
open Go.Ai (wrap_i64 wrap_u64 wrap_u8)
variable {W0 : World}
variable {P : Program} {D : Nat → Option (List Nat)} {e : E2} {K : KT}
theorem make_intro {h : H2} {t u z y : Nat} {zs : List Value} {l : Int} (he : Ai.elt? P t = some (u, z, y)) (hz : Ai.zr? P u = some zs) (h1 : zs.length = z ∧ 0 < z) (h2 : 0 ≤ l ∧ l.toNat * (y + 1) ≤ Ai.most)
    (hk : kz K (.raw (.slice (some ⟨hn h .mk, 0, none⟩) l.toNat l.toNat)) (h.push ⟨z, (Ai.repL l.toNat zs).map .raw⟩) .mk) : az (makez P h t (.raw (.int .i64 l)) (.raw (.int .i64 l)) .mk) K .mk := by
  have : makez P h t (.raw (.int .i64 l)) (.raw (.int .i64 l)) .mk = some (.raw (.slice (some ⟨h.n, 0, none⟩) l.toNat l.toNat), h.push ⟨z, (Ai.repL l.toNat zs).map .raw⟩) := by
    simp only [makez, makeSliceX, he, hz]
    rw [if_pos ⟨h1.1, h1.2, trivial, h2.1, h2.2⟩]
  rw [this]; exact hk
theorem wrt_set {cs : List X} {o : Nat} {v : X} (ho : o < cs.length) : wrtL cs o [v] = some (cs.set o v) := by
  simp only [wrtL, List.length_cons, List.length_nil]
  rw [if_pos (by omega)]
  congr 1
  rw [List.set_eq_take_append_cons_drop, if_pos ho]
  simp
theorem H2.le_push1 (h : H2) (k : OB) : h.le (h.push k) := le_push (H2.le.refl h)
theorem set_push {h : H2} {k k' : OB} : (h.push k).set (hn h .mk) k' = h.push k' := by
  unfold H2.set H2.push hn; congr 1; funext x; by_cases hx : x = h.n <;> simp [hx]
theorem set_set {h : H2} {b : Nat} {k k' : OB} : (h.set b k).set b k' = h.set b k' := by
  unfold H2.set; congr 1; funext x; by_cases hx : x = b <;> simp [hx]
def eS (s : ByteArray) : List T := [.v (.string s)]
theorem eS_def {s : ByteArray} : eS s = [.v (.string s)] := rfl
def strs (ss : List ByteArray) : List (List T) := ss.map eS
theorem strs_len {ss : List ByteArray} : (strs ss).length = ss.length := by simp [strs]
theorem strs_el {ss : List ByteArray} {i : Nat} (hi : i < ss.length) : el (strs ss) i = eS (ss.getD i default) := el_map hi
attribute [go_sem] eS_def strs_len strs_el set_push set_set

theorem szIntS_ok {f : Adr} {zs : List Int} {left : Int} {h : H2} (hn0 : zs.length ≤ 9223372036854775807) (hl : 0 ≤ left ∧ left ≤ 1048576) : WC2 Try.prog W0 52 [.sl f 1 (ints zs), .raw (.int .i64 left)] h (fun v h' => (∃ k : Int, v = .raw (.int .i64 k) ∧ (0 ≤ k → (zs.length : Int) + k ≤ left)) ∧ h' = h) := by
  have hw : IntKind.i64.wrap (left - zs.length) = left - zs.length := by rw [wrap_i64] <;> omega
  refine start (P := Try.prog) [[0, 1], [0, 1], [1], [], [1]] (by kernel_rfl) Try.func52 rfl (by decide) (by decide +kernel) (rs := [.tmp 4]) rfl rfl (Nat.le_of_ble_eq_true rfl) ?_
  intro wf
  repeat (first | rw [kz_o] | rw [kz_r0] | simp -dsimp -implicitDefEqProofs only [go_sem, Nat.reduceBEq, Nat.reduceAdd, Nat.reduceLeDiff, Nat.reduceMul, Int.reduceLE, Int.reduceLT, Int.reduceBEq, hw])
  refine gz_dec (fun h1 => ?_) (fun h1 => ?_)
  · repeat (first | rw [kz_o] | rw [kz_r0] | simp -dsimp -implicitDefEqProofs only [go_sem, Nat.reduceBEq, Nat.reduceAdd, Nat.reduceLeDiff, Nat.reduceMul, Int.reduceLE, Int.reduceLT, Int.reduceBEq])
    exact ⟨⟨_, rfl, fun hh => by omega⟩, rfl⟩
  · repeat (first | rw [kz_o] | rw [kz_r0] | simp -dsimp -implicitDefEqProofs only [go_sem, Nat.reduceBEq, Nat.reduceAdd, Nat.reduceLeDiff, Nat.reduceMul, Int.reduceLE, Int.reduceLT, Int.reduceBEq])
    exact ⟨⟨_, rfl, fun hh => by omega⟩, rfl⟩

theorem toIntS_ok {f : Adr} {zs : List Int} {h : H2} (hn0 : zs.length ≤ 1048576) :
    WC2 Try.prog W0 20 [.sl f 1 (ints zs)] h (fun v h' => h.le h' ∧ Own (hn h .mk) h' v 1 zs.length (zs.map (fun (z : Int) => X.raw (.int .i64 z)))) := by
  refine start (P := Try.prog) [[0], [0], [0, 3], [0, 3, 4], [0, 3, 4], [0, 3, 4], [3]] (by kernel_rfl) Try.func20 rfl (by decide) (by decide +kernel) (rs := [.tmp 2]) rfl rfl (Nat.le_of_ble_eq_true rfl) ?_
  intro wf
  repeat (first | rw [kz_o] | rw [kz_r0] | simp -dsimp -implicitDefEqProofs only [go_sem, Nat.reduceBEq, Nat.reduceAdd, Nat.reduceLeDiff, Nat.reduceMul, Int.reduceLE, Int.reduceLT, Int.reduceBEq])
  refine make_intro Ai.ty_el27 Ai.ty_zr3 (by decide) ⟨by omega, by simp only [Int.toNat_natCast]; have : Ai.most = 1099511627776 := rfl; omega⟩ ?_
  repeat (first | rw [kz_o] | rw [kz_r0] | simp -dsimp -implicitDefEqProofs only [go_sem, Nat.reduceBEq, Nat.reduceAdd, Nat.reduceLeDiff, Nat.reduceMul, Int.reduceLE, Int.reduceLT, Int.reduceBEq])
  refine lz_keep [0, 3] (fun m e h' => ∃ (k : Nat) (cs : List X), look e 4 .mk = .raw (.int .i64 k) ∧ m + k = zs.length ∧ h' = h.push ⟨1, cs⟩ ∧ cs.length = zs.length ∧ ∀ j : Nat, j < k → cs[j]? = (zs.map (fun (z : Int) => X.raw (.int .i64 z)))[j]?) zs.length ?_ ?_
  · exact ⟨0, _, by simp -dsimp -implicitDefEqProofs only [go_sem, Nat.reduceBEq, Nat.reduceAdd, Nat.reduceLeDiff, Nat.reduceMul, Int.reduceLE, Int.reduceLT, Int.reduceBEq, Int.natCast_zero], by omega, rfl, by simp [Ai.rep_one], fun j hj => by omega⟩
  · rintro m e h' hks ⟨k, cs, e4, hk, rfl, hcs, hpre⟩
    simp -dsimp -implicitDefEqProofs only [go_sem, Nat.reduceBEq, Nat.reduceAdd, Nat.reduceLeDiff, Nat.reduceMul, Int.reduceLE, Int.reduceLT, Int.reduceBEq, Int.toNat_natCast] at hks
    repeat (first | rw [kz_o] | rw [kz_r0] | simp -dsimp -implicitDefEqProofs only [go_sem, Nat.reduceBEq, Nat.reduceAdd, Nat.reduceLeDiff, Nat.reduceMul, Int.reduceLE, Int.reduceLT, Int.reduceBEq, hks, e4])
    refine gz_dec (fun h2 => ?_) (fun h2 => ?_)
    · have h3 : k < zs.length := by omega
      have hw2 : wrtL cs k [.raw (.int .i64 (zs.getD k default))] = some (cs.set k (.raw (.int .i64 (zs.getD k default)))) := wrt_set (by omega)
      have hi2 : (0 : Int) ≤ (k : Int) ∧ (k : Int) < (zs.length : Int) := by omega
      repeat (first | rw [kz_o] | rw [kz_r0] | simp -dsimp -implicitDefEqProofs only [go_sem, Nat.reduceBEq, Nat.reduceAdd, Nat.reduceLeDiff, Nat.reduceMul, Int.reduceLE, Int.reduceLT, Int.reduceBEq, hks, e4, nat_nn, Int.toNat_natCast, h3, hoo, hw2, hi2, wrap_succ h3 (by omega)])
      refine nx_keep (m - 1) (by omega) (by simp -dsimp -implicitDefEqProofs only [go_sem, Nat.reduceBEq, Nat.reduceAdd, Nat.reduceLeDiff, Nat.reduceMul, Int.reduceLE, Int.reduceLT, Int.reduceBEq, hks]) ⟨k + 1, _, by simp -dsimp -implicitDefEqProofs only [go_sem, Nat.reduceBEq, Nat.reduceAdd, Nat.reduceLeDiff, Nat.reduceMul, Int.reduceLE, Int.reduceLT, Int.reduceBEq], by omega, rfl, by simpa using hcs, ?_⟩
      intro j hj
      by_cases hji : j = k
      · subst hji
        rw [List.getElem?_set_self (by omega), List.getElem?_map, List.getD_eq_getElem?_getD, List.getElem?_eq_getElem h3]; rfl
      · rw [List.getElem?_set_ne (fun e => hji e.symm)]
        exact hpre j (by omega)
    · repeat (first | rw [kz_o] | rw [kz_r0] | simp -dsimp -implicitDefEqProofs only [go_sem, Nat.reduceBEq, Nat.reduceAdd, Nat.reduceLeDiff, Nat.reduceMul, Int.reduceLE, Int.reduceLT, Int.reduceBEq, hks, e4])
      refine ⟨H2.le_push1 h _, ?_⟩
      have : cs = zs.map (fun (z : Int) => X.raw (.int .i64 z)) := by
        apply List.ext_getElem?
        intro j
        by_cases hj : j < k
        · exact hpre j hj
        · rw [List.getElem?_eq_none (by omega), List.getElem?_eq_none (by simp; omega)]
      rw [this]
      exact Own.new (Nat.le_refl _) (by simp)
theorem eqIntS_ok {f f' : Adr} {zs : List Int} {h : H2} (hn0 : zs.length ≤ 9223372036854775807) :
    WC2 Try.prog W0 24 [.sl f 1 (ints zs), .sl f' 1 (ints zs)] h (fun v h' => v = .raw (.bool true) ∧ h' = h) := by
  refine start (P := Try.prog) [[0, 1], [0, 1], [], [0, 1], [0, 1, 5], [0, 1, 5], [0, 1, 5], [], []] (by kernel_rfl) Try.func24 rfl (by decide) (by decide +kernel) (rs := [.tmp 4]) rfl rfl (Nat.le_of_ble_eq_true rfl) ?_
  intro wf
  repeat (first | rw [kz_o] | rw [kz_r0] | simp -dsimp -implicitDefEqProofs only [go_sem, Nat.reduceBEq, Nat.reduceAdd, Nat.reduceLeDiff, Nat.reduceMul, Int.reduceLE, Int.reduceLT, Int.reduceBEq])
  refine lz_keep [0, 1] (fun m e h' => h' = h ∧ ∃ k : Nat, look e 5 .mk = .raw (.int .i64 k) ∧ m + k = zs.length) zs.length ?_ ?_
  · exact ⟨rfl, 0, by simp -dsimp -implicitDefEqProofs only [go_sem, Nat.reduceBEq, Nat.reduceAdd, Nat.reduceLeDiff, Nat.reduceMul, Int.reduceLE, Int.reduceLT, Int.reduceBEq, Int.natCast_zero], by omega⟩
  · rintro m e h hks ⟨rfl, k, e5, hk⟩
    simp -dsimp -implicitDefEqProofs only [go_sem, Nat.reduceBEq, Nat.reduceAdd, Nat.reduceLeDiff, Nat.reduceMul, Int.reduceLE, Int.reduceLT, Int.reduceBEq] at hks
    repeat (first | rw [kz_o] | rw [kz_r0] | simp -dsimp -implicitDefEqProofs only [go_sem, Nat.reduceBEq, Nat.reduceAdd, Nat.reduceLeDiff, Nat.reduceMul, Int.reduceLE, Int.reduceLT, Int.reduceBEq, hks, e5])
    refine gz_dec (fun h2 => ?_) (fun h2 => ?_)
    · have h3 : k < zs.length := by omega
      repeat (first | rw [kz_o] | rw [kz_r0] | simp -dsimp -implicitDefEqProofs only [go_sem, Nat.reduceBEq, Nat.reduceAdd, Nat.reduceLeDiff, Nat.reduceMul, Int.reduceLE, Int.reduceLT, Int.reduceBEq, hks, e5])
      refine dq_intro [(0, []), (1, []), (2, []), (3, []), (4, []), (5, []), (6, []), (7, []), (8, [])] (by kernel_rfl) ?_
      repeat (first | rw [kz_o] | rw [kz_r0] | simp -dsimp -implicitDefEqProofs only [go_sem, Nat.reduceBEq, Nat.reduceAdd, Nat.reduceLeDiff, Nat.reduceMul, Int.reduceLE, Int.reduceLT, Int.reduceBEq, hks, e5, nat_nn, Int.toNat_natCast, h3, hoo, hbo, not_true_eq_false, wrap_succ h3 hn0])
      exact nx_keep (m - 1) (by omega) (by simp -dsimp -implicitDefEqProofs only [go_sem, Nat.reduceBEq, Nat.reduceAdd, Nat.reduceLeDiff, Nat.reduceMul, Int.reduceLE, Int.reduceLT, Int.reduceBEq, hks]) ⟨rfl, k + 1, by simp -dsimp -implicitDefEqProofs only [go_sem, Nat.reduceBEq, Nat.reduceAdd, Nat.reduceLeDiff, Nat.reduceMul, Int.reduceLE, Int.reduceLT, Int.reduceBEq], by omega⟩
    · repeat (first | rw [kz_o] | rw [kz_r0] | simp -dsimp -implicitDefEqProofs only [go_sem, Nat.reduceBEq, Nat.reduceAdd, Nat.reduceLeDiff, Nat.reduceMul, Int.reduceLE, Int.reduceLT, Int.reduceBEq, hks, e5])
      exact ⟨rfl, rfl⟩

theorem toStringS_ok {f : Adr} {zs : List ByteArray} {h : H2} (hn0 : zs.length ≤ 1048576) :
    WC2 Try.prog W0 63 [.sl f 1 (strs zs)] h (fun v h' => h.le h' ∧ Own (hn h .mk) h' v 1 zs.length (zs.map (fun (z : ByteArray) => X.raw (.string z)))) := by
  refine start (P := Try.prog) [[0], [0], [0, 3], [0, 3, 4], [0, 3, 4], [0, 3, 4], [3]] (by kernel_rfl) Try.func63 rfl (by decide) (by decide +kernel) (rs := [.tmp 2]) rfl rfl (Nat.le_of_ble_eq_true rfl) ?_
  intro wf
  repeat (first | rw [kz_o] | rw [kz_r0] | simp -dsimp -implicitDefEqProofs only [go_sem, Nat.reduceBEq, Nat.reduceAdd, Nat.reduceLeDiff, Nat.reduceMul, Int.reduceLE, Int.reduceLT, Int.reduceBEq])
  refine make_intro Ai.ty_el24 Ai.ty_zr9 (by decide) ⟨by omega, by simp only [Int.toNat_natCast]; have : Ai.most = 1099511627776 := rfl; omega⟩ ?_
  repeat (first | rw [kz_o] | rw [kz_r0] | simp -dsimp -implicitDefEqProofs only [go_sem, Nat.reduceBEq, Nat.reduceAdd, Nat.reduceLeDiff, Nat.reduceMul, Int.reduceLE, Int.reduceLT, Int.reduceBEq])
  refine lz_keep [0, 3] (fun m e h' => ∃ (k : Nat) (cs : List X), look e 4 .mk = .raw (.int .i64 k) ∧ m + k = zs.length ∧ h' = h.push ⟨1, cs⟩ ∧ cs.length = zs.length ∧ ∀ j : Nat, j < k → cs[j]? = (zs.map (fun (z : ByteArray) => X.raw (.string z)))[j]?) zs.length ?_ ?_
  · exact ⟨0, _, by simp -dsimp -implicitDefEqProofs only [go_sem, Nat.reduceBEq, Nat.reduceAdd, Nat.reduceLeDiff, Nat.reduceMul, Int.reduceLE, Int.reduceLT, Int.reduceBEq, Int.natCast_zero], by omega, rfl, by simp [Ai.rep_one], fun j hj => by omega⟩
  · rintro m e h' hks ⟨k, cs, e4, hk, rfl, hcs, hpre⟩
    simp -dsimp -implicitDefEqProofs only [go_sem, Nat.reduceBEq, Nat.reduceAdd, Nat.reduceLeDiff, Nat.reduceMul, Int.reduceLE, Int.reduceLT, Int.reduceBEq, Int.toNat_natCast] at hks
    repeat (first | rw [kz_o] | rw [kz_r0] | simp -dsimp -implicitDefEqProofs only [go_sem, Nat.reduceBEq, Nat.reduceAdd, Nat.reduceLeDiff, Nat.reduceMul, Int.reduceLE, Int.reduceLT, Int.reduceBEq, hks, e4])
    refine gz_dec (fun h2 => ?_) (fun h2 => ?_)
    · have h3 : k < zs.length := by omega
      have hw2 : wrtL cs k [.raw (.string (zs.getD k default))] = some (cs.set k (.raw (.string (zs.getD k default)))) := wrt_set (by omega)
      have hi2 : (0 : Int) ≤ (k : Int) ∧ (k : Int) < (zs.length : Int) := by omega
      repeat (first | rw [kz_o] | rw [kz_r0] | simp -dsimp -implicitDefEqProofs only [go_sem, Nat.reduceBEq, Nat.reduceAdd, Nat.reduceLeDiff, Nat.reduceMul, Int.reduceLE, Int.reduceLT, Int.reduceBEq, hks, e4, nat_nn, Int.toNat_natCast, h3, hoo, hw2, hi2, wrap_succ h3 (by omega)])
      refine nx_keep (m - 1) (by omega) (by simp -dsimp -implicitDefEqProofs only [go_sem, Nat.reduceBEq, Nat.reduceAdd, Nat.reduceLeDiff, Nat.reduceMul, Int.reduceLE, Int.reduceLT, Int.reduceBEq, hks]) ⟨k + 1, _, by simp -dsimp -implicitDefEqProofs only [go_sem, Nat.reduceBEq, Nat.reduceAdd, Nat.reduceLeDiff, Nat.reduceMul, Int.reduceLE, Int.reduceLT, Int.reduceBEq], by omega, rfl, by simpa using hcs, ?_⟩
      intro j hj
      by_cases hji : j = k
      · subst hji
        rw [List.getElem?_set_self (by omega), List.getElem?_map, List.getD_eq_getElem?_getD, List.getElem?_eq_getElem h3]; rfl
      · rw [List.getElem?_set_ne (fun e => hji e.symm)]
        exact hpre j (by omega)
    · repeat (first | rw [kz_o] | rw [kz_r0] | simp -dsimp -implicitDefEqProofs only [go_sem, Nat.reduceBEq, Nat.reduceAdd, Nat.reduceLeDiff, Nat.reduceMul, Int.reduceLE, Int.reduceLT, Int.reduceBEq, hks, e4])
      refine ⟨H2.le_push1 h _, ?_⟩
      have : cs = zs.map (fun (z : ByteArray) => X.raw (.string z)) := by
        apply List.ext_getElem?
        intro j
        by_cases hj : j < k
        · exact hpre j hj
        · rw [List.getElem?_eq_none (by omega), List.getElem?_eq_none (by simp; omega)]
      rw [this]
      exact Own.new (Nat.le_refl _) (by simp)
theorem eqStringS_ok {f f' : Adr} {zs : List ByteArray} {h : H2} (hn0 : zs.length ≤ 9223372036854775807) :
    WC2 Try.prog W0 71 [.sl f 1 (strs zs), .sl f' 1 (strs zs)] h (fun v h' => v = .raw (.bool true) ∧ h' = h) := by
  refine start (P := Try.prog) [[0, 1], [0, 1], [], [0, 1], [0, 1, 5], [0, 1, 5], [0, 1, 5], [], []] (by kernel_rfl) Try.func71 rfl (by decide) (by decide +kernel) (rs := [.tmp 4]) rfl rfl (Nat.le_of_ble_eq_true rfl) ?_
  intro wf
  repeat (first | rw [kz_o] | rw [kz_r0] | simp -dsimp -implicitDefEqProofs only [go_sem, Nat.reduceBEq, Nat.reduceAdd, Nat.reduceLeDiff, Nat.reduceMul, Int.reduceLE, Int.reduceLT, Int.reduceBEq])
  refine lz_keep [0, 1] (fun m e h' => h' = h ∧ ∃ k : Nat, look e 5 .mk = .raw (.int .i64 k) ∧ m + k = zs.length) zs.length ?_ ?_
  · exact ⟨rfl, 0, by simp -dsimp -implicitDefEqProofs only [go_sem, Nat.reduceBEq, Nat.reduceAdd, Nat.reduceLeDiff, Nat.reduceMul, Int.reduceLE, Int.reduceLT, Int.reduceBEq, Int.natCast_zero], by omega⟩
  · rintro m e h hks ⟨rfl, k, e5, hk⟩
    simp -dsimp -implicitDefEqProofs only [go_sem, Nat.reduceBEq, Nat.reduceAdd, Nat.reduceLeDiff, Nat.reduceMul, Int.reduceLE, Int.reduceLT, Int.reduceBEq] at hks
    repeat (first | rw [kz_o] | rw [kz_r0] | simp -dsimp -implicitDefEqProofs only [go_sem, Nat.reduceBEq, Nat.reduceAdd, Nat.reduceLeDiff, Nat.reduceMul, Int.reduceLE, Int.reduceLT, Int.reduceBEq, hks, e5])
    refine gz_dec (fun h2 => ?_) (fun h2 => ?_)
    · have h3 : k < zs.length := by omega
      repeat (first | rw [kz_o] | rw [kz_r0] | simp -dsimp -implicitDefEqProofs only [go_sem, Nat.reduceBEq, Nat.reduceAdd, Nat.reduceLeDiff, Nat.reduceMul, Int.reduceLE, Int.reduceLT, Int.reduceBEq, hks, e5])
      refine dq_intro [(0, []), (1, []), (2, []), (3, []), (4, []), (5, []), (6, []), (7, []), (8, [])] (by kernel_rfl) ?_
      repeat (first | rw [kz_o] | rw [kz_r0] | simp -dsimp -implicitDefEqProofs only [go_sem, Nat.reduceBEq, Nat.reduceAdd, Nat.reduceLeDiff, Nat.reduceMul, Int.reduceLE, Int.reduceLT, Int.reduceBEq, hks, e5, nat_nn, Int.toNat_natCast, h3, hoo, hbo, not_true_eq_false, wrap_succ h3 hn0])
      exact nx_keep (m - 1) (by omega) (by simp -dsimp -implicitDefEqProofs only [go_sem, Nat.reduceBEq, Nat.reduceAdd, Nat.reduceLeDiff, Nat.reduceMul, Int.reduceLE, Int.reduceLT, Int.reduceBEq, hks]) ⟨rfl, k + 1, by simp -dsimp -implicitDefEqProofs only [go_sem, Nat.reduceBEq, Nat.reduceAdd, Nat.reduceLeDiff, Nat.reduceMul, Int.reduceLE, Int.reduceLT, Int.reduceBEq], by omega⟩
    · repeat (first | rw [kz_o] | rw [kz_r0] | simp -dsimp -implicitDefEqProofs only [go_sem, Nat.reduceBEq, Nat.reduceAdd, Nat.reduceLeDiff, Nat.reduceMul, Int.reduceLE, Int.reduceLT, Int.reduceBEq, hks, e5])
      exact ⟨rfl, rfl⟩

def marksI (k : Int) (n : Nat) : List Int := (List.range n).map fun (j : Nat) => k + (j : Int)
theorem marks_len {k : Int} {n : Nat} : (marksI k n).length = n := by simp [marksI]
theorem marks_get {k : Int} {n j : Nat} (hj : j < n) : (marksI k n).getD j default = k + j := by
  rw [List.getD_eq_getElem?_getD, marksI, List.getElem?_map, List.getElem?_range hj]; rfl
/-! ### Texts -/
def sumL (ss : List ByteArray) : Nat := (ss.map ByteArray.size).sum
theorem sumL_take {ss : List ByteArray} {k : Nat} (hk : k < ss.length) : sumL (ss.take (k + 1)) = sumL (ss.take k) + (ss.getD k default).size := by
  unfold sumL
  rw [List.take_succ_eq_append_getElem hk, List.getD_eq_getElem?_getD, List.getElem?_eq_getElem hk, List.map_append, List.sum_append]; rfl
theorem szStringS_ok {f : Adr} {zs : List ByteArray} {left : Int} {h : H2} (hn0 : zs.length ≤ 9223372036854775807) (hs0 : ∀ s ∈ zs, s.size ≤ 9223372036854775807) (hl : 0 ≤ left ∧ left ≤ 1048576) :
    WC2 Try.prog W0 55 [.sl f 1 (strs zs), .raw (.int .i64 left)] h (fun v h' => (∃ k : Int, v = .raw (.int .i64 k) ∧ (0 ≤ k → (zs.length : Int) + sumL zs + k ≤ left)) ∧ h' = h) := by
  have hw : IntKind.i64.wrap (left - zs.length) = left - zs.length := by rw [wrap_i64] <;> omega
  refine start (P := Try.prog) [[0, 1], [0, 1], [0, 1], [], [0, 1], [0, 1, 5], [0, 1, 5], [0, 1, 5], [0, 1, 5], [], [1]] (by kernel_rfl) Try.func55 rfl (by decide) (by decide +kernel) (rs := [.tmp 4]) rfl rfl (Nat.le_of_ble_eq_true rfl) ?_
  intro wf
  repeat (first | rw [kz_o] | rw [kz_r0] | simp -dsimp -implicitDefEqProofs only [go_sem, Nat.reduceBEq, Nat.reduceAdd, Nat.reduceLeDiff, Nat.reduceMul, Int.reduceLE, Int.reduceLT, Int.reduceBEq, hw])
  refine gz_dec (fun h1 => ?_) (fun h1 => ?_)
  · repeat (first | rw [kz_o] | rw [kz_r0] | simp -dsimp -implicitDefEqProofs only [go_sem, Nat.reduceBEq, Nat.reduceAdd, Nat.reduceLeDiff, Nat.reduceMul, Int.reduceLE, Int.reduceLT, Int.reduceBEq])
    exact ⟨⟨_, rfl, fun hh => by omega⟩, rfl⟩
  · repeat (first | rw [kz_o] | rw [kz_r0] | simp -dsimp -implicitDefEqProofs only [go_sem, Nat.reduceBEq, Nat.reduceAdd, Nat.reduceLeDiff, Nat.reduceMul, Int.reduceLE, Int.reduceLT, Int.reduceBEq])
    refine lz_keep [0] (fun m e h' => h' = h ∧ ∃ (k : Nat) (x : Int), look e 5 .mk = .raw (.int .i64 k) ∧ look e 1 .mk = .raw (.int .i64 x) ∧ 0 ≤ x ∧ (zs.length : Int) + sumL (zs.take k) + x = left ∧ m + k = zs.length) zs.length ?_ ?_
    · exact ⟨rfl, 0, left - zs.length, by simp -dsimp -implicitDefEqProofs only [go_sem, Nat.reduceBEq, Nat.reduceAdd, Nat.reduceLeDiff, Nat.reduceMul, Int.reduceLE, Int.reduceLT, Int.reduceBEq], by simp -dsimp -implicitDefEqProofs only [go_sem, Nat.reduceBEq, Nat.reduceAdd, Nat.reduceLeDiff, Nat.reduceMul, Int.reduceLE, Int.reduceLT, Int.reduceBEq], by omega, by simp [sumL]; omega, by omega⟩
    · rintro m e h hks ⟨rfl, k, x, e5, e1, hx, hsum, hk⟩
      simp -dsimp -implicitDefEqProofs only [go_sem, Nat.reduceBEq, Nat.reduceAdd, Nat.reduceLeDiff, Nat.reduceMul, Int.reduceLE, Int.reduceLT, Int.reduceBEq] at hks
      repeat (first | rw [kz_o] | rw [kz_r0] | simp -dsimp -implicitDefEqProofs only [go_sem, Nat.reduceBEq, Nat.reduceAdd, Nat.reduceLeDiff, Nat.reduceMul, Int.reduceLE, Int.reduceLT, Int.reduceBEq, hks, e5, e1])
      refine gz_dec (fun h2 => ?_) (fun h2 => ?_)
      · have h3 : k < zs.length := by omega
        have hsz := hs0 (zs.getD k default) (by rw [List.getD_eq_getElem?_getD, List.getElem?_eq_getElem h3]; exact List.getElem_mem h3)
        have hw2 : IntKind.i64.wrap (x - (zs.getD k default).size) = x - (zs.getD k default).size := by rw [wrap_i64] <;> omega
        repeat (first | rw [kz_o] | rw [kz_r0] | simp -dsimp -implicitDefEqProofs only [go_sem, Nat.reduceBEq, Nat.reduceAdd, Nat.reduceLeDiff, Nat.reduceMul, Int.reduceLE, Int.reduceLT, Int.reduceBEq, hks, e5, e1, h3, hw2, wrap_succ h3 hn0])
        refine gz_dec (fun h4 => ?_) (fun h4 => ?_)
        · repeat (first | rw [kz_o] | rw [kz_r0] | simp -dsimp -implicitDefEqProofs only [go_sem, Nat.reduceBEq, Nat.reduceAdd, Nat.reduceLeDiff, Nat.reduceMul, Int.reduceLE, Int.reduceLT, Int.reduceBEq])
          exact ⟨⟨_, rfl, fun hh => by omega⟩, rfl⟩
        · repeat (first | rw [kz_o] | rw [kz_r0] | simp -dsimp -implicitDefEqProofs only [go_sem, Nat.reduceBEq, Nat.reduceAdd, Nat.reduceLeDiff, Nat.reduceMul, Int.reduceLE, Int.reduceLT, Int.reduceBEq, hks, e5, e1, h3, hw2, wrap_succ h3 hn0])
          exact nx_keep (m - 1) (by omega) (by simp -dsimp -implicitDefEqProofs only [go_sem, Nat.reduceBEq, Nat.reduceAdd, Nat.reduceLeDiff, Nat.reduceMul, Int.reduceLE, Int.reduceLT, Int.reduceBEq, hks]) ⟨rfl, k + 1, x - (zs.getD k default).size, by simp -dsimp -implicitDefEqProofs only [go_sem, Nat.reduceBEq, Nat.reduceAdd, Nat.reduceLeDiff, Nat.reduceMul, Int.reduceLE, Int.reduceLT, Int.reduceBEq], by simp -dsimp -implicitDefEqProofs only [go_sem, Nat.reduceBEq, Nat.reduceAdd, Nat.reduceLeDiff, Nat.reduceMul, Int.reduceLE, Int.reduceLT, Int.reduceBEq], by omega, by have := sumL_take h3; omega, by omega⟩
      · repeat (first | rw [kz_o] | rw [kz_r0] | simp -dsimp -implicitDefEqProofs only [go_sem, Nat.reduceBEq, Nat.reduceAdd, Nat.reduceLeDiff, Nat.reduceMul, Int.reduceLE, Int.reduceLT, Int.reduceBEq, hks, e5, e1])
        refine ⟨⟨x, rfl, fun _ => ?_⟩, rfl⟩
        rw [List.take_of_length_le (by omega)] at hsum
        omega
/-- The text that marks a place. -/
def mtN : Nat → ByteArray → ByteArray
  | 0, s => s
  | n + 1, s => mtN ((n + 1) / 10) (⟨#[UInt8.ofNat (48 + (n + 1) % 10)]⟩ ++ s)
decreasing_by omega
def markT (k : Int) : ByteArray := if k ≤ 0 then ⟨#[109, 48]⟩ else ⟨#[109]⟩ ++ mtN k.toNat ⟨#[]⟩
theorem mtN_size : ∀ (n : Nat) (s : ByteArray), (mtN n s).size ≤ s.size + n
  | 0, s => by simp [mtN]
  | n + 1, s => by
    have := mtN_size ((n + 1) / 10) (⟨#[UInt8.ofNat (48 + (n + 1) % 10)]⟩ ++ s)
    rw [mtN]
    have h1 : (ByteArray.mk #[UInt8.ofNat (48 + (n + 1) % 10)]).size = 1 := rfl
    rw [ByteArray.size_append, h1] at this
    omega
decreasing_by omega

theorem bw_of {x : Int} : Go.Ai.byteV (.int .u8 x) = some (UInt8.ofNat x.toNat) := rfl
def marksS (k : Int) (n : Nat) : List ByteArray := (marksI k n).map markT
theorem marksS_len {k : Int} {n : Nat} : (marksS k n).length = n := by simp [marksS, marksI]
theorem marksS_get {k : Int} {n j : Nat} (hj : j < n) : (marksS k n).getD j default = markT (k + j) := by
  rw [List.getD_eq_getElem?_getD, marksS, marksI, List.map_map, List.getElem?_map, List.getElem?_range hj]; rfl
abbrev cS (s : ByteArray) : X := .raw (.string s)
def OwnS (N : Nat) (g : H2) (v : X) (zs : List ByteArray) : Prop := Own N g v 1 zs.length (zs.map cS)
end Go.Bi
