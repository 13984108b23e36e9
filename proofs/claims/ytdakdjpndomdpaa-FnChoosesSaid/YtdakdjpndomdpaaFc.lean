/- The walks of the sort's smaller parts: blocks that change places, neighbours that turn; the comparison. -/
import Derived.Test.YtdakdjpndomdpaaCa
import Derived.Test.YtdakdjpndomdpaaFa
set_option linter.unusedSimpArgs false
set_option linter.unusedVariables false
set_option maxRecDepth 20000
namespace Go.Bi
open Go.Proofs
open Go.Ai (wrap_i64 wrap_u64 wrap_u8 Heap)
variable {W0 : World} {P : Program}
theorem get_I {l : List Int} {i : Nat} (h : i < l.length) : (l.map cI)[i]? = some (.raw (.int .i64 (lat l i))) := by
  rw [List.getElem?_map, List.getElem?_eq_getElem h, lat, List.getD_eq_getElem?_getD, List.getElem?_eq_getElem h]; rfl
theorem wrt_I {l : List Int} {i : Nat} {v : Int} (h : i < l.length) : wrtL (l.map cI) i [.raw (.int .i64 v)] = some ((l.set i v).map cI) := by
  rw [wrt_set (by simpa using h), List.map_set]; rfl
theorem wrap_add {a k : Nat} (h : a + k ≤ 9223372036854775807) : IntKind.i64.wrap ((a : Int) + (k : Int)) = ((a + k : Nat) : Int) := by
  rw [wrap_i64] <;> omega
theorem wrap_sub {a k : Nat} (h : k ≤ a) (h2 : a ≤ 9223372036854775807) : IntKind.i64.wrap ((a : Int) - (k : Int)) = ((a - k : Nat) : Int) := by
  rw [wrap_i64] <;> omega
theorem gz_neq {p : Prop} [Decidable p] {A B : Prop} (ha : ¬ p → A) (hb : p → B) : gz (decide (¬ p)) A B .mk := gz_dec ha (fun h => hb (Decidable.not_not.1 h))
/-- Only one row has changed. -/
def Same (g g' : H2) (r : Nat) : Prop := hn g' .mk = hn g .mk ∧ ∀ c, c ≠ r → hg g' c .mk = hg g c .mk
theorem Same.refl {g : H2} {r : Nat} : Same g g r := ⟨rfl, fun _ _ => rfl⟩
theorem Same.trans {a b c : H2} {r : Nat} (x : Same a b r) (y : Same b c r) : Same a c r := ⟨y.1.trans x.1, fun q h => (y.2 q h).trans (x.2 q h)⟩
theorem Same.set {g : H2} {r : Nat} {k : OB} : Same g (g.set r k) r := ⟨rfl, fun c hc => by rw [hg_set, show (c == r) = false by simp [hc]]; rfl⟩
set_option maxHeartbeats 4000000
theorem swapRange_ok {a b n r : Nat} {l : List Int} {F : X} {g : H2} (hrow : hg g r .mk = some ⟨1, l.map cI⟩) (h1 : a + n ≤ b) (h2 : b + n ≤ l.length) (h3 : l.length ≤ 1099511627776) :
    WC2 Try.prog W0 154 [.raw (.slice (some ⟨r, 0, none⟩) l.length l.length), .raw (.int .i64 a), .raw (.int .i64 b), .raw (.int .i64 n), F] g
      (fun v g' => ∃ l', hg g' r .mk = some ⟨1, l'.map cI⟩ ∧ Swp l l' a b n ∧ Same g g' r) := by
  refine start (P := Try.prog) [[0, 1, 2, 3], [0, 1, 2, 3, 10], [0, 1, 2, 3, 10], [0, 1, 2, 3, 10]] (by kernel_rfl) Try.func154 rfl (by decide) (by decide +kernel) (rs := []) rfl rfl (Nat.le_of_ble_eq_true rfl) ?_
  intro wf
  repeat (first | rw [kz_o] | rw [kz_r0] | simp -dsimp -implicitDefEqProofs only [go_sem, Nat.reduceBEq, Nat.reduceAdd, Nat.reduceLeDiff, Nat.reduceMul, Int.reduceLE, Int.reduceLT, Int.reduceBEq])
  refine lz_keep [0, 1, 2, 3] (fun m e h' => ∃ (k : Nat) (l' : List Int), look e 10 .mk = .raw (.int .i64 k) ∧ m + k = n ∧ hg h' r .mk = some ⟨1, l'.map cI⟩ ∧ Swp l l' a b k ∧ Same g h' r) n ?_ ?_
  · exact ⟨0, l, by simp -dsimp -implicitDefEqProofs only [go_sem, Nat.reduceBEq, Nat.reduceAdd, Nat.reduceLeDiff, Nat.reduceMul, Int.reduceLE, Int.reduceLT, Int.reduceBEq], by omega, hrow, Swp.zero, Same.refl⟩
  · rintro m e h' hks ⟨k, l', e10, hk, hr, hs, hsm⟩
    simp -dsimp -implicitDefEqProofs only [go_sem, Nat.reduceBEq, Nat.reduceAdd, Nat.reduceLeDiff, Nat.reduceMul, Int.reduceLE, Int.reduceLT, Int.reduceBEq] at hks
    repeat (first | rw [kz_o] | rw [kz_r0] | simp -dsimp -implicitDefEqProofs only [go_sem, Nat.reduceBEq, Nat.reduceAdd, Nat.reduceLeDiff, Nat.reduceMul, Int.reduceLE, Int.reduceLT, Int.reduceBEq, hks, e10])
    refine gz_dec (fun h4 => ?_) (fun h4 => ?_)
    · have hl := hs.1
      have hwa : IntKind.i64.wrap ((a : Int) + (k : Int)) = ((a + k : Nat) : Int) := wrap_add (by omega)
      have hwb : IntKind.i64.wrap ((b : Int) + (k : Int)) = ((b + k : Nat) : Int) := wrap_add (by omega)
      have ia : (0 : Int) ≤ ((a + k : Nat) : Int) ∧ ((a + k : Nat) : Int) < (l.length : Int) := by omega
      have ib : (0 : Int) ≤ ((b + k : Nat) : Int) ∧ ((b + k : Nat) : Int) < (l.length : Int) := by omega
      have ja : a + k < l.length := by omega
      have jb : b + k < l.length := by omega
      have ga := get_I (l := l') (i := a + k) (by omega)
      have gb := get_I (l := l') (i := b + k) (by omega)
      have w1 := wrt_I (l := l') (i := a + k) (v := lat l' (b + k)) (by omega)
      have w2 := wrt_I (l := l'.set (a + k) (lat l' (b + k))) (i := b + k) (v := lat l' (a + k)) (by simp; omega)
      repeat (first | rw [kz_o] | rw [kz_r0] | simp -dsimp -implicitDefEqProofs only [go_sem, Nat.reduceBEq, Nat.reduceAdd, Nat.reduceLeDiff, Nat.reduceMul, Int.reduceLE, Int.reduceLT, Int.reduceBEq, hks, e10])
      refine dq_intro [(0, []), (1, []), (2, []), (3, []), (4, []), (5, []), (6, []), (7, []), (8, []), (9, []), (10, []), (11, []), (12, []), (13, []), (14, []), (15, []), (16, []), (17, []), (18, []), (19, []), (20, []), (21, []), (22, []), (23, [])] (by kernel_rfl) ?_
      repeat (first | rw [kz_o] | rw [kz_r0] | simp -dsimp -implicitDefEqProofs only [go_sem, Nat.reduceBEq, Nat.reduceAdd, Nat.reduceLeDiff, Nat.reduceMul, Int.reduceLE, Int.reduceLT, Int.reduceBEq, hks, e10, hr, hwa, hwb, ia, ib, ja, jb, ga, gb, w1, w2, wrap_succ (show k < n by omega) (by omega)])
      refine nx_keep (m - 1) (by omega) (by simp -dsimp -implicitDefEqProofs only [go_sem, Nat.reduceBEq, Nat.reduceAdd, Nat.reduceLeDiff, Nat.reduceMul, Int.reduceLE, Int.reduceLT, Int.reduceBEq, hks]) ⟨k + 1, (l'.set (a + k) (lat l' (b + k))).set (b + k) (lat l' (a + k)), by simp -dsimp -implicitDefEqProofs only [go_sem, Nat.reduceBEq, Nat.reduceAdd, Nat.reduceLeDiff, Nat.reduceMul, Int.reduceLE, Int.reduceLT, Int.reduceBEq], by omega, by simp -dsimp -implicitDefEqProofs only [go_sem, Nat.reduceBEq, Nat.reduceAdd, Nat.reduceLeDiff, Nat.reduceMul, Int.reduceLE, Int.reduceLT, Int.reduceBEq], hs.step (by omega) (by omega), hsm.trans Same.set⟩
    · repeat (first | rw [kz_o] | rw [kz_r0] | simp -dsimp -implicitDefEqProofs only [go_sem, Nat.reduceBEq, Nat.reduceAdd, Nat.reduceLeDiff, Nat.reduceMul, Int.reduceLE, Int.reduceLT, Int.reduceBEq, hks, e10])
      have : k = n := by omega
      subst this
      exact ⟨l', hr, hs, hsm⟩
theorem swap_len {a b n r : Nat} {l l' : List Int} {F : X} {g : H2} {Q : X → H2 → Prop} (hl : l'.length = l.length)
    (h : True → WC2 Try.prog W0 154 [.raw (.slice (some ⟨r, 0, none⟩) l'.length l'.length), .raw (.int .i64 a), .raw (.int .i64 b), .raw (.int .i64 n), F] g Q) :
    WC2 Try.prog W0 154 [.raw (.slice (some ⟨r, 0, none⟩) l.length l.length), .raw (.int .i64 a), .raw (.int .i64 b), .raw (.int .i64 n), F] g Q := by
  rw [← hl]; exact h trivial
theorem rotate_ok {a m b r : Nat} {l : List Int} {F : X} {g : H2} (hrow : hg g r .mk = some ⟨1, l.map cI⟩) (h1 : a < m) (h2 : m < b) (hb : b ≤ l.length) (h3 : l.length ≤ 1099511627776) :
    WC2 Try.prog W0 149 [.raw (.slice (some ⟨r, 0, none⟩) l.length l.length), .raw (.int .i64 a), .raw (.int .i64 m), .raw (.int .i64 b), F] g
      (fun v g' => ∃ l', hg g' r .mk = some ⟨1, l'.map cI⟩ ∧ Rot l l' a m b ∧ Same g g' r) := by
  refine start (P := Try.prog) [[0, 1, 2, 3, 4], [0, 2, 3, 4, 10], [0, 2, 4, 10, 11], [0, 2, 4, 10, 11], [0, 2, 4, 10, 11], [0, 2, 4, 10, 11], [0, 2, 4, 10, 11], [0, 2, 4, 10, 11], [0, 2, 4, 10]] (by kernel_rfl) Try.func149 rfl (by decide) (by decide +kernel) (rs := []) rfl rfl (Nat.le_of_ble_eq_true rfl) ?_
  intro wf
  repeat (first | rw [kz_o] | rw [kz_r0] | simp -dsimp -implicitDefEqProofs only [go_sem, Nat.reduceBEq, Nat.reduceAdd, Nat.reduceLeDiff, Nat.reduceMul, Int.reduceLE, Int.reduceLT, Int.reduceBEq])
  have w1 : IntKind.i64.wrap ((m : Int) - (a : Int)) = ((m - a : Nat) : Int) := wrap_sub (by omega) (by omega)
  have w2 : IntKind.i64.wrap ((b : Int) - (m : Int)) = ((b - m : Nat) : Int) := wrap_sub (by omega) (by omega)
  repeat (first | rw [kz_o] | rw [kz_r0] | simp -dsimp -implicitDefEqProofs only [go_sem, Nat.reduceBEq, Nat.reduceAdd, Nat.reduceLeDiff, Nat.reduceMul, Int.reduceLE, Int.reduceLT, Int.reduceBEq, w1, w2])
  refine lz_keep [0, 2, 4] (fun q e h' => ∃ (i j : Nat) (l' : List Int), look e 10 .mk = .raw (.int .i64 i) ∧ look e 11 .mk = .raw (.int .i64 j) ∧ q = i + j ∧ 0 < i ∧ 0 < j ∧ i ≤ m - a ∧ j ≤ b - m ∧ l'.length = l.length ∧ hg h' r .mk = some ⟨1, l'.map cI⟩ ∧ (∀ l'', Rot l' l'' (m - i) m (m + j) → Rot l l'' a m b) ∧ Same g h' r) ((m - a) + (b - m)) ?_ ?_
  · refine ⟨m - a, b - m, l, by simp -dsimp -implicitDefEqProofs only [go_sem, Nat.reduceBEq, Nat.reduceAdd, Nat.reduceLeDiff, Nat.reduceMul, Int.reduceLE, Int.reduceLT, Int.reduceBEq, w1], by simp -dsimp -implicitDefEqProofs only [go_sem, Nat.reduceBEq, Nat.reduceAdd, Nat.reduceLeDiff, Nat.reduceMul, Int.reduceLE, Int.reduceLT, Int.reduceBEq, w2], rfl, by omega, by omega, by omega, by omega, rfl, hrow, fun l'' hr => ?_, Same.refl⟩
    rw [show m - (m - a) = a by omega, show m + (b - m) = b by omega] at hr; exact hr
  · rintro q e h' hks ⟨i, j, l', e10, e11, hq, hi, hj, hia, hjb, hl, hr, hrot, hsm⟩
    simp -dsimp -implicitDefEqProofs only [go_sem, Nat.reduceBEq, Nat.reduceAdd, Nat.reduceLeDiff, Nat.reduceMul, Int.reduceLE, Int.reduceLT, Int.reduceBEq] at hks
    repeat (first | rw [kz_o] | rw [kz_r0] | simp -dsimp -implicitDefEqProofs only [go_sem, Nat.reduceBEq, Nat.reduceAdd, Nat.reduceLeDiff, Nat.reduceMul, Int.reduceLE, Int.reduceLT, Int.reduceBEq, hks, e10, e11])
    refine gz_neq (fun h4 => ?_) (fun h4 => ?_)
    · have h4' : i ≠ j := fun e => h4 (by rw [e])
      repeat (first | rw [kz_o] | rw [kz_r0] | simp -dsimp -implicitDefEqProofs only [go_sem, Nat.reduceBEq, Nat.reduceAdd, Nat.reduceLeDiff, Nat.reduceMul, Int.reduceLE, Int.reduceLT, Int.reduceBEq, hks, e10, e11, h4])
      refine gz_dec (fun h5 => ?_) (fun h5 => ?_)
      · have w3 : IntKind.i64.wrap ((m : Int) - (i : Int)) = ((m - i : Nat) : Int) := wrap_sub (by omega) (by omega)
        have w4 : IntKind.i64.wrap ((i : Int) - (j : Int)) = ((i - j : Nat) : Int) := wrap_sub (by omega) (by omega)
        repeat (first | rw [kz_o] | rw [kz_r0] | simp -dsimp -implicitDefEqProofs only [go_sem, Nat.reduceBEq, Nat.reduceAdd, Nat.reduceLeDiff, Nat.reduceMul, Int.reduceLE, Int.reduceLT, Int.reduceBEq, hks, e10, e11, h4, h5, w3])
        refine wz_intro (swap_len hl (fun h => swapRange_ok hr (by omega) (by omega) (by omega))) ?_
        rintro v g6 ⟨l6, hr6, hs6, hsm6⟩
        repeat (first | rw [kz_o] | rw [kz_r0] | simp -dsimp -implicitDefEqProofs only [go_sem, Nat.reduceBEq, Nat.reduceAdd, Nat.reduceLeDiff, Nat.reduceMul, Int.reduceLE, Int.reduceLT, Int.reduceBEq, hks, e10, e11, w4])
        refine nx_keep (i - j + j) (by omega) (by simp -dsimp -implicitDefEqProofs only [go_sem, Nat.reduceBEq, Nat.reduceAdd, Nat.reduceLeDiff, Nat.reduceMul, Int.reduceLE, Int.reduceLT, Int.reduceBEq, hks]) ⟨i - j, j, l6, by simp -dsimp -implicitDefEqProofs only [go_sem, Nat.reduceBEq, Nat.reduceAdd, Nat.reduceLeDiff, Nat.reduceMul, Int.reduceLE, Int.reduceLT, Int.reduceBEq], by simp -dsimp -implicitDefEqProofs only [go_sem, Nat.reduceBEq, Nat.reduceAdd, Nat.reduceLeDiff, Nat.reduceMul, Int.reduceLE, Int.reduceLT, Int.reduceBEq, e11], rfl, by omega, by omega, by omega, by omega, hs6.1.trans hl, hr6, fun l'' hr'' => hrot l'' (Rot.left hs6 (by omega) (by omega) hr''), hsm.trans hsm6⟩
      · have w3 : IntKind.i64.wrap ((m : Int) - (i : Int)) = ((m - i : Nat) : Int) := wrap_sub (by omega) (by omega)
        have w5 : IntKind.i64.wrap ((m : Int) + (j : Int)) = ((m + j : Nat) : Int) := wrap_add (by omega)
        have w6 : IntKind.i64.wrap (((m + j : Nat) : Int) - (i : Int)) = ((m + j - i : Nat) : Int) := wrap_sub (by omega) (by omega)
        have w4 : IntKind.i64.wrap ((j : Int) - (i : Int)) = ((j - i : Nat) : Int) := wrap_sub (by omega) (by omega)
        repeat (first | rw [kz_o] | rw [kz_r0] | simp -dsimp -implicitDefEqProofs only [go_sem, Nat.reduceBEq, Nat.reduceAdd, Nat.reduceLeDiff, Nat.reduceMul, Int.reduceLE, Int.reduceLT, Int.reduceBEq, hks, e10, e11, h4, h5, w3, w5, w6])
        refine wz_intro (swap_len hl (fun h => swapRange_ok hr (by omega) (by omega) (by omega))) ?_
        rintro v g6 ⟨l6, hr6, hs6, hsm6⟩
        repeat (first | rw [kz_o] | rw [kz_r0] | simp -dsimp -implicitDefEqProofs only [go_sem, Nat.reduceBEq, Nat.reduceAdd, Nat.reduceLeDiff, Nat.reduceMul, Int.reduceLE, Int.reduceLT, Int.reduceBEq, hks, e10, e11, w4])
        refine nx_keep (i + (j - i)) (by omega) (by simp -dsimp -implicitDefEqProofs only [go_sem, Nat.reduceBEq, Nat.reduceAdd, Nat.reduceLeDiff, Nat.reduceMul, Int.reduceLE, Int.reduceLT, Int.reduceBEq, hks]) ⟨i, j - i, l6, by simp -dsimp -implicitDefEqProofs only [go_sem, Nat.reduceBEq, Nat.reduceAdd, Nat.reduceLeDiff, Nat.reduceMul, Int.reduceLE, Int.reduceLT, Int.reduceBEq, e10], by simp -dsimp -implicitDefEqProofs only [go_sem, Nat.reduceBEq, Nat.reduceAdd, Nat.reduceLeDiff, Nat.reduceMul, Int.reduceLE, Int.reduceLT, Int.reduceBEq], rfl, by omega, by omega, by omega, by omega, hs6.1.trans hl, hr6, fun l'' hr'' => hrot l'' (Rot.right hs6 (by omega) (by omega) hr''), hsm.trans hsm6⟩
    · have h4' : i = j := by omega
      subst h4'
      have w3 : IntKind.i64.wrap ((m : Int) - (i : Int)) = ((m - i : Nat) : Int) := wrap_sub (by omega) (by omega)
      repeat (first | rw [kz_o] | rw [kz_r0] | simp -dsimp -implicitDefEqProofs only [go_sem, Nat.reduceBEq, Nat.reduceAdd, Nat.reduceLeDiff, Nat.reduceMul, Int.reduceLE, Int.reduceLT, Int.reduceBEq, hks, e10, e11, h4, w3])
      refine wz_intro (swap_len hl (fun h => swapRange_ok hr (by omega) (by omega) (by omega))) ?_
      rintro v g6 ⟨l6, hr6, hs6, hsm6⟩
      repeat (first | rw [kz_o] | rw [kz_r0] | simp -dsimp -implicitDefEqProofs only [go_sem, Nat.reduceBEq, Nat.reduceAdd, Nat.reduceLeDiff, Nat.reduceMul, Int.reduceLE, Int.reduceLT, Int.reduceBEq, hks, e10, e11])
      exact ⟨l6, hr6, hrot l6 (Rot.last hs6 (by omega)), hsm.trans hsm6⟩
def keyZ (zs : List Int) (x : Int) : Int := lat zs x.toNat
def cmpP (zs : List Int) (x y : Int) : Int := if keyZ zs y < keyZ zs x then -1 else if keyZ zs x < keyZ zs y then 1 else 0
theorem cmpP_lt {zs : List Int} {x y : Int} : cmpP zs x y < 0 ↔ keyZ zs y < keyZ zs x := by
  unfold cmpP; split
  · simp_all
  · split <;> simp_all
theorem cmp_ok {zs : List Int} {f : Adr} {c : Nat} {g : H2} {x y : Int} (hbox : hg g c .mk = some ⟨1, [.sl f 1 (ints zs)]⟩) (hx : 0 ≤ x ∧ x < zs.length) (hy : 0 ≤ y ∧ y < zs.length) :
    WC2 Try.prog W0 73 [.raw (.int .i64 x), .raw (.int .i64 y), .raw (.pointer (some ⟨c, 0, none⟩))] g (fun v g' => v = .raw (.int .i64 (cmpP zs x y)) ∧ g' = g) := by
  obtain ⟨i, rfl⟩ := Int.eq_ofNat_of_zero_le hx.1
  obtain ⟨j, rfl⟩ := Int.eq_ofNat_of_zero_le hy.1
  have hi : i < zs.length := by omega
  have hj : j < zs.length := by omega
  refine start (P := Try.prog) [[0, 1, 2], [0, 1, 2], [], [0, 1, 2], [], []] (by kernel_rfl) Try.func73 rfl (by decide) (by decide +kernel) (rs := [.tmp 5]) rfl rfl (Nat.le_of_ble_eq_true rfl) ?_
  intro wf
  repeat (first | rw [kz_o] | rw [kz_r0] | simp -dsimp -implicitDefEqProofs only [go_sem, Nat.reduceBEq, Nat.reduceAdd, Nat.reduceLeDiff, Nat.reduceMul, Int.reduceLE, Int.reduceLT, Int.reduceBEq])
  have k : ∀ i : Nat, keyZ zs (i : Int) = zs.getD i default := fun i => by rw [keyZ, lat, Int.toNat_natCast]; rfl
  refine dq_intro [(0, []), (1, []), (2, []), (3, []), (4, []), (5, []), (6, []), (7, []), (8, []), (9, [])] (by kernel_rfl) ?_
  repeat (first | rw [kz_o] | rw [kz_r0] | simp -dsimp -implicitDefEqProofs only [go_sem, Nat.reduceBEq, Nat.reduceAdd, Nat.reduceLeDiff, Nat.reduceMul, Int.reduceLE, Int.reduceLT, Int.reduceBEq, hbox, hi, hj, hx, hy])
  refine gz_dec (fun h1 => ?_) (fun h1 => ?_)
  · repeat (first | rw [kz_o] | rw [kz_r0] | simp -dsimp -implicitDefEqProofs only [go_sem, Nat.reduceBEq, Nat.reduceAdd, Nat.reduceLeDiff, Nat.reduceMul, Int.reduceLE, Int.reduceLT, Int.reduceBEq, hbox])
    exact ⟨by rw [cmpP, k, k, if_pos h1], rfl⟩
  · repeat (first | rw [kz_o] | rw [kz_r0] | simp -dsimp -implicitDefEqProofs only [go_sem, Nat.reduceBEq, Nat.reduceAdd, Nat.reduceLeDiff, Nat.reduceMul, Int.reduceLE, Int.reduceLT, Int.reduceBEq, hbox])
    refine dq_intro [(0, []), (1, []), (2, []), (3, []), (4, []), (5, []), (6, []), (7, []), (8, []), (9, [])] (by kernel_rfl) ?_
    repeat (first | rw [kz_o] | rw [kz_r0] | simp -dsimp -implicitDefEqProofs only [go_sem, Nat.reduceBEq, Nat.reduceAdd, Nat.reduceLeDiff, Nat.reduceMul, Int.reduceLE, Int.reduceLT, Int.reduceBEq, hbox, hi, hj, hx, hy])
    refine gz_dec (fun h2 => ?_) (fun h2 => ?_)
    · repeat (first | rw [kz_o] | rw [kz_r0] | simp -dsimp -implicitDefEqProofs only [go_sem, Nat.reduceBEq, Nat.reduceAdd, Nat.reduceLeDiff, Nat.reduceMul, Int.reduceLE, Int.reduceLT, Int.reduceBEq, hbox])
      exact ⟨by rw [cmpP, k, k, if_neg h1, if_pos h2], rfl⟩
    · repeat (first | rw [kz_o] | rw [kz_r0] | simp -dsimp -implicitDefEqProofs only [go_sem, Nat.reduceBEq, Nat.reduceAdd, Nat.reduceLeDiff, Nat.reduceMul, Int.reduceLE, Int.reduceLT, Int.reduceBEq, hbox])
      exact ⟨by rw [cmpP, k, k, if_neg h1, if_neg h2], rfl⟩
end Go.Bi
