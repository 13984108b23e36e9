/- The walk of the sort's merge. -/
import Derived.Test.YtdakdjpndomdpaaFd
set_option linter.unusedSimpArgs false
set_option linter.unusedVariables false
set_option maxRecDepth 20000
namespace Go.Bi
open Go.Proofs
open Go.Ai (wrap_i64 wrap_u64 wrap_u8 Heap)
variable {W0 : World} {P : Program}
set_option maxHeartbeats 4000000
theorem gz_not {p : Prop} [Decidable p] {A B : Prop} (ha : ¬ p → A) (hb : p → B) : gz (!decide p) A B .mk := gz_intro (fun h => ha (by simpa using h)) (fun h => hb (by simpa using h))
theorem half_eq {x : Nat} (h : x ≤ 9223372036854775807) : IntKind.i64.wrap (Go.Ai.shrI IntKind.u64 (IntKind.u64.wrap (x : Int)) 1) = ((x / 2 : Nat) : Int) := by
  rw [wrap_u64, show ((x : Int) % 18446744073709551616) = x by omega]
  have : Go.Ai.shrI .u64 (x : Int) 1 = ((x / 2 : Nat) : Int) := by
    unfold Go.Ai.shrI
    rw [show (2 : Int) ^ (min (1 : Int).toNat IntKind.u64.bits) = 2 from rfl, Int.fdiv_eq_ediv_of_nonneg _ (by omega)]; omega
  rw [this, wrap_i64] <;> omega
attribute [-go_sem] c_cond in
theorem symMerge_ok {r c : Nat} {zs : List Int} {f : Adr} (hcr : c ≠ r) (h3 : zs.length ≤ 400) : ∀ (n a m b : Nat) (l : List Int) (g : H2), b - a ≤ n → hg g r .mk = some ⟨1, l.map cI⟩ → hg g c .mk = some ⟨1, [.sl f 1 (ints zs)]⟩ → a < m → m < b → b ≤ l.length → l.length = zs.length →
    Pre (keyZ zs) l a m b → (∀ i, a ≤ i → i < b → 0 ≤ lat l i ∧ lat l i < zs.length) →
    WC2 Try.prog W0 138 [.raw (.slice (some ⟨r, 0, none⟩) l.length l.length), .raw (.int .i64 a), .raw (.int .i64 m), .raw (.int .i64 b), .raw (.func (.func 73) #[] [.pointer (some ⟨c, 0, none⟩)].toArray)] g
      (fun v g' => ∃ l', hg g' r .mk = some ⟨1, l'.map cI⟩ ∧ Mrg (keyZ zs) l l' a b ∧ Same g g' r) := by
  intro n
  induction n with
  | zero => intro a m b l g hn; omega
  | succ n ih =>
  intro a m b l g hn hrow hbox ham hmb hb hl hpre hrg
  refine start (P := Try.prog) [[0, 1, 2, 3, 4], [0, 1, 2, 3, 4], [0, 1, 3, 4, 10], [0, 1, 4, 10, 11], [0, 1, 4, 10, 11], [0, 1, 4, 10, 11, 12], [0, 1, 4, 11, 12], [0, 1, 4, 10, 12], [0, 1, 10], [0, 10, 13], [0, 10, 13], [0, 10, 13], [0, 1, 2, 3, 4], [0, 1, 2, 4], [0, 2, 4, 14], [0, 2, 4, 14, 15], [0, 2, 4, 14, 15], [0, 2, 4, 14, 15, 16], [0, 2, 4, 15, 16], [0, 2, 4, 14, 16], [0, 2, 14], [0, 14, 17], [0, 14, 17], [0, 14, 17], [0, 1, 2, 3, 4], [0, 1, 2, 3, 4, 18], [0, 1, 2, 3, 4, 18, 19], [0, 1, 2, 3, 4, 18, 19], [0, 1, 2, 3, 4, 18, 19], [0, 1, 2, 3, 4, 18, 19, 20], [0, 1, 2, 3, 4, 18, 19], [0, 1, 2, 3, 4, 18, 19, 20], [0, 1, 2, 3, 4, 18, 19, 20, 21], [0, 1, 2, 3, 4, 18, 19, 20, 21, 22], [0, 1, 2, 3, 4, 18, 19, 20, 21, 22], [0, 1, 2, 3, 4, 18, 19, 20, 21, 22, 23], [0, 1, 2, 3, 4, 18, 19, 21, 22, 23], [0, 1, 2, 3, 4, 18, 19, 20, 22, 23], [0, 1, 2, 3, 4, 18, 19, 20], [0, 1, 2, 3, 4, 18, 20, 24], [0, 1, 2, 3, 4, 18, 20, 24], [0, 1, 3, 4, 18, 20, 24], [0, 1, 3, 4, 18, 20, 24], [0, 3, 4, 18, 24], [0, 3, 4, 18, 24]] (by kernel_rfl) Try.func138 rfl (by decide) (by decide +kernel) (rs := []) rfl rfl (Nat.le_of_ble_eq_true rfl) ?_
  intro wf
  have wd : IntKind.i64.wrap ((m : Int) - (a : Int)) = ((m - a : Nat) : Int) := wrap_sub (by omega) (by omega)
  have we : IntKind.i64.wrap ((b : Int) - (m : Int)) = ((b - m : Nat) : Int) := wrap_sub (by omega) (by omega)
  repeat (first | rw [kz_o] | rw [kz_r0] | simp -dsimp -implicitDefEqProofs only [go_sem, Nat.reduceBEq, Nat.reduceAdd, Nat.reduceLeDiff, Nat.reduceMul, Int.reduceLE, Int.reduceLT, Int.reduceBEq, wd, c_cond])
  refine gz_dec (fun q1 => ?_) (fun q1 => ?_)
  · have hm : m = a + 1 := by omega
    repeat (first | rw [kz_o] | rw [kz_r0] | simp -dsimp -implicitDefEqProofs only [go_sem, Nat.reduceBEq, Nat.reduceAdd, Nat.reduceLeDiff, Nat.reduceMul, Int.reduceLE, Int.reduceLT, Int.reduceBEq, q1, wd, c_cond])
    refine lz_keep [0, 1, 4] (fun q e h' => ∃ (i j : Nat), look e 10 .mk = .raw (.int .i64 i) ∧ look e 11 .mk = .raw (.int .i64 j) ∧ q + i = j ∧ m ≤ i ∧ j ≤ b ∧ (j = b ∨ ¬ keyZ zs (lat l a) < keyZ zs (lat l j)) ∧ (i = m ∨ keyZ zs (lat l a) < keyZ zs (lat l (i - 1))) ∧ h' = g) (b - m) ?_ ?_
    · exact ⟨m, b, by simp -dsimp -implicitDefEqProofs only [go_sem, Nat.reduceBEq, Nat.reduceAdd, Nat.reduceLeDiff, Nat.reduceMul, Int.reduceLE, Int.reduceLT, Int.reduceBEq], by simp -dsimp -implicitDefEqProofs only [go_sem, Nat.reduceBEq, Nat.reduceAdd, Nat.reduceLeDiff, Nat.reduceMul, Int.reduceLE, Int.reduceLT, Int.reduceBEq], by omega, by omega, by omega, .inl rfl, .inl rfl, rfl⟩
    · rintro q e h' hks ⟨i, j, e10, e11, hq, hi, hj, x1, x2, rfl⟩
      simp -dsimp -implicitDefEqProofs only [go_sem, Nat.reduceBEq, Nat.reduceAdd, Nat.reduceLeDiff, Nat.reduceMul, Int.reduceLE, Int.reduceLT, Int.reduceBEq] at hks
      repeat (first | rw [kz_o] | rw [kz_r0] | simp -dsimp -implicitDefEqProofs only [go_sem, Nat.reduceBEq, Nat.reduceAdd, Nat.reduceLeDiff, Nat.reduceMul, Int.reduceLE, Int.reduceLT, Int.reduceBEq, hks, e10, e11, c_cond])
      refine gz_dec (fun q2 => ?_) (fun q2 => ?_)
      · have wh : IntKind.i64.wrap ((i : Int) + (j : Int)) = ((i + j : Nat) : Int) := wrap_add (by omega)
        have wv := half_eq (x := i + j) (by omega)
        obtain ⟨h, hh⟩ : ∃ h, h = (i + j) / 2 := ⟨_, rfl⟩
        rw [← hh] at wv
        have ia : (0 : Int) ≤ ((a : Nat) : Int) ∧ ((a : Nat) : Int) < (l.length : Int) := by omega
        have ib : (0 : Int) ≤ ((h : Nat) : Int) ∧ ((h : Nat) : Int) < (l.length : Int) := by omega
        have ja : a < l.length := by omega
        have jb : h < l.length := by omega
        have ga := get_I (l := l) (i := a) (by omega)
        have gb := get_I (l := l) (i := h) (by omega)
        repeat (first | rw [kz_o] | rw [kz_r0] | simp -dsimp -implicitDefEqProofs only [go_sem, Nat.reduceBEq, Nat.reduceAdd, Nat.reduceLeDiff, Nat.reduceMul, Int.reduceLE, Int.reduceLT, Int.reduceBEq, hks, e10, e11, wh, wv, c_cond])
        refine dq_intro [(0, []), (1, []), (2, []), (3, []), (4, []), (5, []), (6, []), (7, []), (8, []), (9, []), (10, [])] (by kernel_rfl) ?_
        repeat (first | rw [kz_o] | rw [kz_r0] | simp -dsimp -implicitDefEqProofs only [go_sem, Nat.reduceBEq, Nat.reduceAdd, Nat.reduceLeDiff, Nat.reduceMul, Int.reduceLE, Int.reduceLT, Int.reduceBEq, hks, e10, e11, hrow, ia, ib, ja, jb, ga, gb, c_cond])
        refine wz_intro (cmp_ok hbox (hrg h (by omega) (by omega)) (hrg a (by omega) (by omega))) ?_
        rintro _ h9 ⟨rfl, rfl⟩
        repeat (first | rw [kz_o] | rw [kz_r0] | simp -dsimp -implicitDefEqProofs only [go_sem, Nat.reduceBEq, Nat.reduceAdd, Nat.reduceLeDiff, Nat.reduceMul, Int.reduceLE, Int.reduceLT, Int.reduceBEq, hks, e10, e11, c_cond])
        refine gz_dec (fun h6 => ?_) (fun h6 => ?_)
        · rw [cmpP_lt] at h6
          repeat (first | rw [kz_o] | rw [kz_r0] | simp -dsimp -implicitDefEqProofs only [go_sem, Nat.reduceBEq, Nat.reduceAdd, Nat.reduceLeDiff, Nat.reduceMul, Int.reduceLE, Int.reduceLT, Int.reduceBEq, hks, e10, e11, wrap_succ (show h < j by omega) (by omega), c_cond])
          exact nx_keep (j - (h + 1)) (by omega) (by simp -dsimp -implicitDefEqProofs only [go_sem, Nat.reduceBEq, Nat.reduceAdd, Nat.reduceLeDiff, Nat.reduceMul, Int.reduceLE, Int.reduceLT, Int.reduceBEq, hks]) ⟨h + 1, j, by simp -dsimp -implicitDefEqProofs only [go_sem, Nat.reduceBEq, Nat.reduceAdd, Nat.reduceLeDiff, Nat.reduceMul, Int.reduceLE, Int.reduceLT, Int.reduceBEq], by simp -dsimp -implicitDefEqProofs only [go_sem, Nat.reduceBEq, Nat.reduceAdd, Nat.reduceLeDiff, Nat.reduceMul, Int.reduceLE, Int.reduceLT, Int.reduceBEq, e11], by omega, by omega, hj, x1, .inr h6, rfl⟩
        · rw [cmpP_lt] at h6
          repeat (first | rw [kz_o] | rw [kz_r0] | simp -dsimp -implicitDefEqProofs only [go_sem, Nat.reduceBEq, Nat.reduceAdd, Nat.reduceLeDiff, Nat.reduceMul, Int.reduceLE, Int.reduceLT, Int.reduceBEq, hks, e10, e11, c_cond])
          exact nx_keep (h - i) (by omega) (by simp -dsimp -implicitDefEqProofs only [go_sem, Nat.reduceBEq, Nat.reduceAdd, Nat.reduceLeDiff, Nat.reduceMul, Int.reduceLE, Int.reduceLT, Int.reduceBEq, hks]) ⟨i, h, by simp -dsimp -implicitDefEqProofs only [go_sem, Nat.reduceBEq, Nat.reduceAdd, Nat.reduceLeDiff, Nat.reduceMul, Int.reduceLE, Int.reduceLT, Int.reduceBEq, e10], by simp -dsimp -implicitDefEqProofs only [go_sem, Nat.reduceBEq, Nat.reduceAdd, Nat.reduceLeDiff, Nat.reduceMul, Int.reduceLE, Int.reduceLT, Int.reduceBEq], by omega, hi, by omega, .inr h6, x2, rfl⟩
      · repeat (first | rw [kz_o] | rw [kz_r0] | simp -dsimp -implicitDefEqProofs only [go_sem, Nat.reduceBEq, Nat.reduceAdd, Nat.reduceLeDiff, Nat.reduceMul, Int.reduceLE, Int.reduceLT, Int.reduceBEq, hks, e10, e11, c_cond])
        have hij : i = j := by omega
        subst hij
        refine lz_keep [0, 10] (fun q e h2 => ∃ (k : Nat) (l' : List Int), look e 13 .mk = .raw (.int .i64 k) ∧ a ≤ k ∧ q + k + 1 = i ∧ hg h2 r .mk = some ⟨1, l'.map cI⟩ ∧ Rot l l' a (a + 1) (k + 1) ∧ Same h' h2 r) (i - 1 - a) ?_ ?_
        · exact ⟨a, l, by simp -dsimp -implicitDefEqProofs only [go_sem, Nat.reduceBEq, Nat.reduceAdd, Nat.reduceLeDiff, Nat.reduceMul, Int.reduceLE, Int.reduceLT, Int.reduceBEq, hks], Nat.le_refl _, by omega, hrow, Rot.none_r, Same.refl⟩
        · rintro q2 e2 h2 hks2 ⟨k, l', e13, hak, hk, hr, hrot, hsm⟩
          simp -dsimp -implicitDefEqProofs only [go_sem, Nat.reduceBEq, Nat.reduceAdd, Nat.reduceLeDiff, Nat.reduceMul, Int.reduceLE, Int.reduceLT, Int.reduceBEq, hks, e10] at hks2
          have wi : IntKind.i64.wrap ((i : Int) - 1) = ((i - 1 : Nat) : Int) := by rw [wrap_i64] <;> omega
          repeat (first | rw [kz_o] | rw [kz_r0] | simp -dsimp -implicitDefEqProofs only [go_sem, Nat.reduceBEq, Nat.reduceAdd, Nat.reduceLeDiff, Nat.reduceMul, Int.reduceLE, Int.reduceLT, Int.reduceBEq, hks2, e13, wi, c_cond])
          refine gz_dec (fun q3 => ?_) (fun q3 => ?_)
          · have hll := hrot.1.1
            have wk : IntKind.i64.wrap ((k : Int) + 1) = ((k + 1 : Nat) : Int) := wrap_succ (show k < i by omega) (by omega)
            have ia : (0 : Int) ≤ ((k : Nat) : Int) ∧ ((k : Nat) : Int) < (l.length : Int) := by omega
            have ib : (0 : Int) ≤ ((k + 1 : Nat) : Int) ∧ ((k + 1 : Nat) : Int) < (l.length : Int) := by omega
            have ja : k < l.length := by omega
            have jb : k + 1 < l.length := by omega
            have ga := get_I (l := l') (i := k) (by omega)
            have gb := get_I (l := l') (i := k + 1) (by omega)
            have w1 := wrt_I (l := l') (i := k) (v := lat l' (k + 1)) (by omega)
            have w2 := wrt_I (l := l'.set k (lat l' (k + 1))) (i := k + 1) (v := lat l' k) (by simp; omega)
            repeat (first | rw [kz_o] | rw [kz_r0] | simp -dsimp -implicitDefEqProofs only [go_sem, Nat.reduceBEq, Nat.reduceAdd, Nat.reduceLeDiff, Nat.reduceMul, Int.reduceLE, Int.reduceLT, Int.reduceBEq, hks2, e13, c_cond])
            refine dq_intro [(0, []), (1, []), (2, []), (3, []), (4, []), (5, []), (6, []), (7, []), (8, []), (9, []), (10, []), (11, []), (12, []), (13, []), (14, []), (15, []), (16, []), (17, [])] (by kernel_rfl) ?_
            repeat (first | rw [kz_o] | rw [kz_r0] | simp -dsimp -implicitDefEqProofs only [go_sem, Nat.reduceBEq, Nat.reduceAdd, Nat.reduceLeDiff, Nat.reduceMul, Int.reduceLE, Int.reduceLT, Int.reduceBEq, hks2, e13, hr, wk, ia, ib, ja, jb, ga, gb, w1, w2, c_cond])
            exact nx_keep (q2 - 1) (by omega) (by simp -dsimp -implicitDefEqProofs only [go_sem, Nat.reduceBEq, Nat.reduceAdd, Nat.reduceLeDiff, Nat.reduceMul, Int.reduceLE, Int.reduceLT, Int.reduceBEq, hks2]) ⟨k + 1, (l'.set k (lat l' (k + 1))).set (k + 1) (lat l' k), by simp -dsimp -implicitDefEqProofs only [go_sem, Nat.reduceBEq, Nat.reduceAdd, Nat.reduceLeDiff, Nat.reduceMul, Int.reduceLE, Int.reduceLT, Int.reduceBEq, wk], by omega, by omega, by simp -dsimp -implicitDefEqProofs only [go_sem, Nat.reduceBEq, Nat.reduceAdd, Nat.reduceLeDiff, Nat.reduceMul, Int.reduceLE, Int.reduceLT, Int.reduceBEq], rot_up hrot hak (by omega), hsm.trans Same.set⟩
          · repeat (first | rw [kz_o] | rw [kz_r0] | simp -dsimp -implicitDefEqProofs only [go_sem, Nat.reduceBEq, Nat.reduceAdd, Nat.reduceLeDiff, Nat.reduceMul, Int.reduceLE, Int.reduceLT, Int.reduceBEq, hks2, e13, c_cond])
            have hki : k + 1 = i := by omega
            rw [hki] at hrot
            subst hm
            exact ⟨l', hr, mrg_one_l hpre hi hj hrot x1 x2, hsm⟩
  repeat (first | rw [kz_o] | rw [kz_r0] | simp -dsimp -implicitDefEqProofs only [go_sem, Nat.reduceBEq, Nat.reduceAdd, Nat.reduceLeDiff, Nat.reduceMul, Int.reduceLE, Int.reduceLT, Int.reduceBEq, q1, wd, we, c_cond])
  refine gz_dec (fun q2 => ?_) (fun q2 => ?_)
  · have hm : b = m + 1 := by omega
    repeat (first | rw [kz_o] | rw [kz_r0] | simp -dsimp -implicitDefEqProofs only [go_sem, Nat.reduceBEq, Nat.reduceAdd, Nat.reduceLeDiff, Nat.reduceMul, Int.reduceLE, Int.reduceLT, Int.reduceBEq, q1, q2, wd, we, c_cond])
    refine lz_keep [0, 2, 4] (fun q e h' => ∃ (i j : Nat), look e 14 .mk = .raw (.int .i64 i) ∧ look e 15 .mk = .raw (.int .i64 j) ∧ q + i = j ∧ a ≤ i ∧ j ≤ m ∧ (j = m ∨ keyZ zs (lat l j) < keyZ zs (lat l m)) ∧ (i = a ∨ ¬ keyZ zs (lat l (i - 1)) < keyZ zs (lat l m)) ∧ h' = g) (m - a) ?_ ?_
    · exact ⟨a, m, by simp -dsimp -implicitDefEqProofs only [go_sem, Nat.reduceBEq, Nat.reduceAdd, Nat.reduceLeDiff, Nat.reduceMul, Int.reduceLE, Int.reduceLT, Int.reduceBEq], by simp -dsimp -implicitDefEqProofs only [go_sem, Nat.reduceBEq, Nat.reduceAdd, Nat.reduceLeDiff, Nat.reduceMul, Int.reduceLE, Int.reduceLT, Int.reduceBEq], by omega, by omega, by omega, .inl rfl, .inl rfl, rfl⟩
    · rintro q e h' hks ⟨i, j, e14, e15, hq, hi, hj, x1, x2, rfl⟩
      simp -dsimp -implicitDefEqProofs only [go_sem, Nat.reduceBEq, Nat.reduceAdd, Nat.reduceLeDiff, Nat.reduceMul, Int.reduceLE, Int.reduceLT, Int.reduceBEq] at hks
      repeat (first | rw [kz_o] | rw [kz_r0] | simp -dsimp -implicitDefEqProofs only [go_sem, Nat.reduceBEq, Nat.reduceAdd, Nat.reduceLeDiff, Nat.reduceMul, Int.reduceLE, Int.reduceLT, Int.reduceBEq, hks, e14, e15, c_cond])
      refine gz_dec (fun q2 => ?_) (fun q2 => ?_)
      · have wh : IntKind.i64.wrap ((i : Int) + (j : Int)) = ((i + j : Nat) : Int) := wrap_add (by omega)
        have wv := half_eq (x := i + j) (by omega)
        obtain ⟨h, hh⟩ : ∃ h, h = (i + j) / 2 := ⟨_, rfl⟩
        rw [← hh] at wv
        have ia : (0 : Int) ≤ ((m : Nat) : Int) ∧ ((m : Nat) : Int) < (l.length : Int) := by omega
        have ib : (0 : Int) ≤ ((h : Nat) : Int) ∧ ((h : Nat) : Int) < (l.length : Int) := by omega
        have ja : m < l.length := by omega
        have jb : h < l.length := by omega
        have ga := get_I (l := l) (i := m) (by omega)
        have gb := get_I (l := l) (i := h) (by omega)
        repeat (first | rw [kz_o] | rw [kz_r0] | simp -dsimp -implicitDefEqProofs only [go_sem, Nat.reduceBEq, Nat.reduceAdd, Nat.reduceLeDiff, Nat.reduceMul, Int.reduceLE, Int.reduceLT, Int.reduceBEq, hks, e14, e15, wh, wv, c_cond])
        refine dq_intro [(0, []), (1, []), (2, []), (3, []), (4, []), (5, []), (6, []), (7, []), (8, []), (9, []), (10, []), (11, [])] (by kernel_rfl) ?_
        repeat (first | rw [kz_o] | rw [kz_r0] | simp -dsimp -implicitDefEqProofs only [go_sem, Nat.reduceBEq, Nat.reduceAdd, Nat.reduceLeDiff, Nat.reduceMul, Int.reduceLE, Int.reduceLT, Int.reduceBEq, hks, e14, e15, hrow, ia, ib, ja, jb, ga, gb, c_cond])
        refine wz_intro (cmp_ok hbox (hrg m (by omega) (by omega)) (hrg h (by omega) (by omega))) ?_
        rintro _ h9 ⟨rfl, rfl⟩
        repeat (first | rw [kz_o] | rw [kz_r0] | simp -dsimp -implicitDefEqProofs only [go_sem, Nat.reduceBEq, Nat.reduceAdd, Nat.reduceLeDiff, Nat.reduceMul, Int.reduceLE, Int.reduceLT, Int.reduceBEq, hks, e14, e15, c_cond])
        refine gz_not (fun h6 => ?_) (fun h6 => ?_)
        · rw [cmpP_lt] at h6
          repeat (first | rw [kz_o] | rw [kz_r0] | simp -dsimp -implicitDefEqProofs only [go_sem, Nat.reduceBEq, Nat.reduceAdd, Nat.reduceLeDiff, Nat.reduceMul, Int.reduceLE, Int.reduceLT, Int.reduceBEq, hks, e14, e15, wrap_succ (show h < j by omega) (by omega), c_cond])
          exact nx_keep (j - (h + 1)) (by omega) (by simp -dsimp -implicitDefEqProofs only [go_sem, Nat.reduceBEq, Nat.reduceAdd, Nat.reduceLeDiff, Nat.reduceMul, Int.reduceLE, Int.reduceLT, Int.reduceBEq, hks]) ⟨h + 1, j, by simp -dsimp -implicitDefEqProofs only [go_sem, Nat.reduceBEq, Nat.reduceAdd, Nat.reduceLeDiff, Nat.reduceMul, Int.reduceLE, Int.reduceLT, Int.reduceBEq], by simp -dsimp -implicitDefEqProofs only [go_sem, Nat.reduceBEq, Nat.reduceAdd, Nat.reduceLeDiff, Nat.reduceMul, Int.reduceLE, Int.reduceLT, Int.reduceBEq, e15], by omega, by omega, hj, x1, .inr h6, rfl⟩
        · rw [cmpP_lt] at h6
          repeat (first | rw [kz_o] | rw [kz_r0] | simp -dsimp -implicitDefEqProofs only [go_sem, Nat.reduceBEq, Nat.reduceAdd, Nat.reduceLeDiff, Nat.reduceMul, Int.reduceLE, Int.reduceLT, Int.reduceBEq, hks, e14, e15, c_cond])
          exact nx_keep (h - i) (by omega) (by simp -dsimp -implicitDefEqProofs only [go_sem, Nat.reduceBEq, Nat.reduceAdd, Nat.reduceLeDiff, Nat.reduceMul, Int.reduceLE, Int.reduceLT, Int.reduceBEq, hks]) ⟨i, h, by simp -dsimp -implicitDefEqProofs only [go_sem, Nat.reduceBEq, Nat.reduceAdd, Nat.reduceLeDiff, Nat.reduceMul, Int.reduceLE, Int.reduceLT, Int.reduceBEq, e14], by simp -dsimp -implicitDefEqProofs only [go_sem, Nat.reduceBEq, Nat.reduceAdd, Nat.reduceLeDiff, Nat.reduceMul, Int.reduceLE, Int.reduceLT, Int.reduceBEq], by omega, hi, by omega, .inr h6, x2, rfl⟩
      · repeat (first | rw [kz_o] | rw [kz_r0] | simp -dsimp -implicitDefEqProofs only [go_sem, Nat.reduceBEq, Nat.reduceAdd, Nat.reduceLeDiff, Nat.reduceMul, Int.reduceLE, Int.reduceLT, Int.reduceBEq, hks, e14, e15, c_cond])
        have hij : i = j := by omega
        subst hij
        refine lz_keep [0, 14] (fun q e h2 => ∃ (k : Nat) (l' : List Int), look e 17 .mk = .raw (.int .i64 k) ∧ k ≤ m ∧ i ≤ k ∧ q + i = k ∧ hg h2 r .mk = some ⟨1, l'.map cI⟩ ∧ Rot l l' k m (m + 1) ∧ Same h' h2 r) (m - i) ?_ ?_
        · exact ⟨m, l, by simp -dsimp -implicitDefEqProofs only [go_sem, Nat.reduceBEq, Nat.reduceAdd, Nat.reduceLeDiff, Nat.reduceMul, Int.reduceLE, Int.reduceLT, Int.reduceBEq, hks], Nat.le_refl _, by omega, by omega, hrow, Rot.none_l, Same.refl⟩
        · rintro q2 e2 h2 hks2 ⟨k, l', e17, hak, hik, hk, hr, hrot, hsm⟩
          simp -dsimp -implicitDefEqProofs only [go_sem, Nat.reduceBEq, Nat.reduceAdd, Nat.reduceLeDiff, Nat.reduceMul, Int.reduceLE, Int.reduceLT, Int.reduceBEq, hks, e14] at hks2
          repeat (first | rw [kz_o] | rw [kz_r0] | simp -dsimp -implicitDefEqProofs only [go_sem, Nat.reduceBEq, Nat.reduceAdd, Nat.reduceLeDiff, Nat.reduceMul, Int.reduceLE, Int.reduceLT, Int.reduceBEq, hks2, e17, c_cond])
          refine gz_dec (fun q3 => ?_) (fun q3 => ?_)
          · have hll := hrot.1.1
            have wk : IntKind.i64.wrap ((k : Int) - 1) = ((k - 1 : Nat) : Int) := by rw [wrap_i64] <;> omega
            have ia : (0 : Int) ≤ ((k : Nat) : Int) ∧ ((k : Nat) : Int) < (l.length : Int) := by omega
            have ib : (0 : Int) ≤ ((k - 1 : Nat) : Int) ∧ ((k - 1 : Nat) : Int) < (l.length : Int) := by omega
            have ja : k < l.length := by omega
            have jb : k - 1 < l.length := by omega
            have ga := get_I (l := l') (i := k) (by omega)
            have gb := get_I (l := l') (i := k - 1) (by omega)
            have w1 := wrt_I (l := l') (i := k) (v := lat l' (k - 1)) (by omega)
            have w2 := wrt_I (l := l'.set k (lat l' (k - 1))) (i := k - 1) (v := lat l' k) (by simp; omega)
            repeat (first | rw [kz_o] | rw [kz_r0] | simp -dsimp -implicitDefEqProofs only [go_sem, Nat.reduceBEq, Nat.reduceAdd, Nat.reduceLeDiff, Nat.reduceMul, Int.reduceLE, Int.reduceLT, Int.reduceBEq, hks2, e17, c_cond])
            refine dq_intro [(0, []), (1, []), (2, []), (3, []), (4, []), (5, []), (6, []), (7, []), (8, []), (9, []), (10, []), (11, []), (12, []), (13, []), (14, []), (15, []), (16, []), (17, [])] (by kernel_rfl) ?_
            repeat (first | rw [kz_o] | rw [kz_r0] | simp -dsimp -implicitDefEqProofs only [go_sem, Nat.reduceBEq, Nat.reduceAdd, Nat.reduceLeDiff, Nat.reduceMul, Int.reduceLE, Int.reduceLT, Int.reduceBEq, hks2, e17, hr, wk, ia, ib, ja, jb, ga, gb, w1, w2, c_cond])
            exact nx_keep (q2 - 1) (by omega) (by simp -dsimp -implicitDefEqProofs only [go_sem, Nat.reduceBEq, Nat.reduceAdd, Nat.reduceLeDiff, Nat.reduceMul, Int.reduceLE, Int.reduceLT, Int.reduceBEq, hks2]) ⟨k - 1, (l'.set k (lat l' (k - 1))).set (k - 1) (lat l' k), by simp -dsimp -implicitDefEqProofs only [go_sem, Nat.reduceBEq, Nat.reduceAdd, Nat.reduceLeDiff, Nat.reduceMul, Int.reduceLE, Int.reduceLT, Int.reduceBEq, wk], by omega, by omega, by omega, by simp -dsimp -implicitDefEqProofs only [go_sem, Nat.reduceBEq, Nat.reduceAdd, Nat.reduceLeDiff, Nat.reduceMul, Int.reduceLE, Int.reduceLT, Int.reduceBEq], rot_down hrot (by omega) hak (by omega), hsm.trans Same.set⟩
          · repeat (first | rw [kz_o] | rw [kz_r0] | simp -dsimp -implicitDefEqProofs only [go_sem, Nat.reduceBEq, Nat.reduceAdd, Nat.reduceLeDiff, Nat.reduceMul, Int.reduceLE, Int.reduceLT, Int.reduceBEq, hks2, e17, c_cond])
            have hki : k = i := by omega
            subst hki hm
            exact ⟨l', hr, mrg_one_r hpre hi hj hrot x2 x1, hsm⟩
  have wab : IntKind.i64.wrap ((a : Int) + (b : Int)) = ((a + b : Nat) : Int) := wrap_add (by omega)
  have wv := half_eq (x := a + b) (by omega)
  obtain ⟨mid, hmid⟩ : ∃ h, h = (a + b) / 2 := ⟨_, rfl⟩
  rw [← hmid] at wv
  have wn : IntKind.i64.wrap ((mid : Int) + (m : Int)) = ((mid + m : Nat) : Int) := wrap_add (by omega)
  have wp : IntKind.i64.wrap (((mid + m : Nat) : Int) - 1) = ((mid + m - 1 : Nat) : Int) := by rw [wrap_i64] <;> omega
  obtain ⟨lo, hi, hlh⟩ : ∃ lo hi : Nat, (mid < m ∧ lo = mid + m - b ∧ hi = mid) ∨ (m ≤ mid ∧ lo = a ∧ hi = m) := by
    by_cases h : mid < m
    · exact ⟨_, _, .inl ⟨h, rfl, rfl⟩⟩
    · exact ⟨_, _, .inr ⟨by omega, rfl, rfl⟩⟩
  repeat (first | rw [kz_o] | rw [kz_r0] | simp -dsimp -implicitDefEqProofs only [go_sem, Nat.reduceBEq, Nat.reduceAdd, Nat.reduceLeDiff, Nat.reduceMul, Int.reduceLE, Int.reduceLT, Int.reduceBEq, q2, wd, we, wab, wv, wn])
  refine cz_mid [0, 1, 2, 3, 4, 18, 19] (fun e h' => look e 20 .mk = .raw (.int .i64 lo) ∧ look e 21 .mk = .raw (.int .i64 hi) ∧ h' = g) ?_ ?_
  · repeat (first | rw [kz_o] | rw [kz_r0] | simp -dsimp -implicitDefEqProofs only [go_sem, Nat.reduceBEq, Nat.reduceAdd, Nat.reduceLeDiff, Nat.reduceMul, Int.reduceLE, Int.reduceLT, Int.reduceBEq, c_cond])
    refine gz_dec (fun q3 => ?_) (fun q3 => ?_)
    · have wnb : IntKind.i64.wrap (((mid + m : Nat) : Int) - (b : Int)) = (lo : Int) := by rw [wrap_i64] <;> omega
      have whi : ((mid : Nat) : Int) = (hi : Int) := by omega
      repeat (first | rw [kz_o] | rw [kz_r0] | simp -dsimp -implicitDefEqProofs only [go_sem, Nat.reduceBEq, Nat.reduceAdd, Nat.reduceLeDiff, Nat.reduceMul, Int.reduceLE, Int.reduceLT, Int.reduceBEq, q3, wnb])
      exact jz_keep (by simp -dsimp -implicitDefEqProofs only [go_sem, Nat.reduceBEq, Nat.reduceAdd, Nat.reduceLeDiff, Nat.reduceMul, Int.reduceLE, Int.reduceLT, Int.reduceBEq]) ⟨by simp -dsimp -implicitDefEqProofs only [go_sem, Nat.reduceBEq, Nat.reduceAdd, Nat.reduceLeDiff, Nat.reduceMul, Int.reduceLE, Int.reduceLT, Int.reduceBEq, wnb], by simp -dsimp -implicitDefEqProofs only [go_sem, Nat.reduceBEq, Nat.reduceAdd, Nat.reduceLeDiff, Nat.reduceMul, Int.reduceLE, Int.reduceLT, Int.reduceBEq, whi], rfl⟩
    · have wnb : ((a : Nat) : Int) = (lo : Int) := by omega
      have whi : ((m : Nat) : Int) = (hi : Int) := by omega
      repeat (first | rw [kz_o] | rw [kz_r0] | simp -dsimp -implicitDefEqProofs only [go_sem, Nat.reduceBEq, Nat.reduceAdd, Nat.reduceLeDiff, Nat.reduceMul, Int.reduceLE, Int.reduceLT, Int.reduceBEq, q3])
      exact jz_keep (by simp -dsimp -implicitDefEqProofs only [go_sem, Nat.reduceBEq, Nat.reduceAdd, Nat.reduceLeDiff, Nat.reduceMul, Int.reduceLE, Int.reduceLT, Int.reduceBEq]) ⟨by simp -dsimp -implicitDefEqProofs only [go_sem, Nat.reduceBEq, Nat.reduceAdd, Nat.reduceLeDiff, Nat.reduceMul, Int.reduceLE, Int.reduceLT, Int.reduceBEq, wnb], by simp -dsimp -implicitDefEqProofs only [go_sem, Nat.reduceBEq, Nat.reduceAdd, Nat.reduceLeDiff, Nat.reduceMul, Int.reduceLE, Int.reduceLT, Int.reduceBEq, whi], rfl⟩
  rintro e1 g1 hks1 ⟨e20, e21, rfl⟩
  simp -dsimp -implicitDefEqProofs only [go_sem, Nat.reduceBEq, Nat.reduceAdd, Nat.reduceLeDiff, Nat.reduceMul, Int.reduceLE, Int.reduceLT, Int.reduceBEq] at hks1
  repeat (first | rw [kz_o] | rw [kz_r0] | simp -dsimp -implicitDefEqProofs only [go_sem, Nat.reduceBEq, Nat.reduceAdd, Nat.reduceLeDiff, Nat.reduceMul, Int.reduceLE, Int.reduceLT, Int.reduceBEq, hks1, e20, e21, wp])
  refine lz_keep [0, 1, 2, 3, 4, 18, 19, 22] (fun q e h' => ∃ (s t : Nat), look e 20 .mk = .raw (.int .i64 s) ∧ look e 21 .mk = .raw (.int .i64 t) ∧ q + s = t ∧ lo ≤ s ∧ t ≤ hi ∧ (s = lo ∨ ¬ keyZ zs (lat l (s - 1)) < keyZ zs (lat l (mid + m - s))) ∧ (t = hi ∨ keyZ zs (lat l t) < keyZ zs (lat l (mid + m - 1 - t))) ∧ h' = g1) (hi - lo) ?_ ?_
  · exact ⟨lo, hi, by simp -dsimp -implicitDefEqProofs only [go_sem, Nat.reduceBEq, Nat.reduceAdd, Nat.reduceLeDiff, Nat.reduceMul, Int.reduceLE, Int.reduceLT, Int.reduceBEq, hks1, e20, e21], by simp -dsimp -implicitDefEqProofs only [go_sem, Nat.reduceBEq, Nat.reduceAdd, Nat.reduceLeDiff, Nat.reduceMul, Int.reduceLE, Int.reduceLT, Int.reduceBEq, hks1, e20, e21], by omega, Nat.le_refl _, Nat.le_refl _, .inl rfl, .inl rfl, rfl⟩
  · rintro q e h' hks ⟨s, t, e20, e21, hq, hs, ht, x1, x2, rfl⟩
    simp -dsimp -implicitDefEqProofs only [go_sem, Nat.reduceBEq, Nat.reduceAdd, Nat.reduceLeDiff, Nat.reduceMul, Int.reduceLE, Int.reduceLT, Int.reduceBEq, hks1] at hks
    repeat (first | rw [kz_o] | rw [kz_r0] | simp -dsimp -implicitDefEqProofs only [go_sem, Nat.reduceBEq, Nat.reduceAdd, Nat.reduceLeDiff, Nat.reduceMul, Int.reduceLE, Int.reduceLT, Int.reduceBEq, hks, e20, e21, c_cond])
    refine gz_dec (fun q4 => ?_) (fun q4 => ?_)
    · have wh : IntKind.i64.wrap ((s : Int) + (t : Int)) = ((s + t : Nat) : Int) := wrap_add (by omega)
      have wv := half_eq (x := s + t) (by omega)
      obtain ⟨h, hh⟩ : ∃ h, h = (s + t) / 2 := ⟨_, rfl⟩
      rw [← hh] at wv
      have wi : IntKind.i64.wrap (((mid + m - 1 : Nat) : Int) - (h : Int)) = ((mid + m - 1 - h : Nat) : Int) := wrap_sub (by omega) (by omega)
      have ia : (0 : Int) ≤ ((mid + m - 1 - h : Nat) : Int) ∧ ((mid + m - 1 - h : Nat) : Int) < (l.length : Int) := by omega
      have ib : (0 : Int) ≤ ((h : Nat) : Int) ∧ ((h : Nat) : Int) < (l.length : Int) := by omega
      have ja : mid + m - 1 - h < l.length := by omega
      have jb : h < l.length := by omega
      have ga := get_I (l := l) (i := mid + m - 1 - h) (by omega)
      have gb := get_I (l := l) (i := h) (by omega)
      repeat (first | rw [kz_o] | rw [kz_r0] | simp -dsimp -implicitDefEqProofs only [go_sem, Nat.reduceBEq, Nat.reduceAdd, Nat.reduceLeDiff, Nat.reduceMul, Int.reduceLE, Int.reduceLT, Int.reduceBEq, hks, e20, e21, wh, wv])
      refine dq_intro [(0, []), (1, []), (2, []), (3, []), (4, []), (5, []), (6, []), (7, []), (8, []), (9, []), (10, []), (11, []), (12, []), (13, [])] (by kernel_rfl) ?_
      repeat (first | rw [kz_o] | rw [kz_r0] | simp -dsimp -implicitDefEqProofs only [go_sem, Nat.reduceBEq, Nat.reduceAdd, Nat.reduceLeDiff, Nat.reduceMul, Int.reduceLE, Int.reduceLT, Int.reduceBEq, hks, e20, e21, hrow, wi, ia, ib, ja, jb, ga, gb])
      refine wz_intro (cmp_ok hbox (hrg (mid + m - 1 - h) (by omega) (by omega)) (hrg h (by omega) (by omega))) ?_
      rintro _ h9 ⟨rfl, rfl⟩
      repeat (first | rw [kz_o] | rw [kz_r0] | simp -dsimp -implicitDefEqProofs only [go_sem, Nat.reduceBEq, Nat.reduceAdd, Nat.reduceLeDiff, Nat.reduceMul, Int.reduceLE, Int.reduceLT, Int.reduceBEq, hks, e20, e21, c_cond])
      refine gz_not (fun h6 => ?_) (fun h6 => ?_)
      · rw [cmpP_lt] at h6
        repeat (first | rw [kz_o] | rw [kz_r0] | simp -dsimp -implicitDefEqProofs only [go_sem, Nat.reduceBEq, Nat.reduceAdd, Nat.reduceLeDiff, Nat.reduceMul, Int.reduceLE, Int.reduceLT, Int.reduceBEq, hks, e20, e21, wrap_succ (show h < t by omega) (by omega)])
        exact nx_keep (t - (h + 1)) (by omega) (by simp -dsimp -implicitDefEqProofs only [go_sem, Nat.reduceBEq, Nat.reduceAdd, Nat.reduceLeDiff, Nat.reduceMul, Int.reduceLE, Int.reduceLT, Int.reduceBEq, hks]) ⟨h + 1, t, by simp -dsimp -implicitDefEqProofs only [go_sem, Nat.reduceBEq, Nat.reduceAdd, Nat.reduceLeDiff, Nat.reduceMul, Int.reduceLE, Int.reduceLT, Int.reduceBEq], by simp -dsimp -implicitDefEqProofs only [go_sem, Nat.reduceBEq, Nat.reduceAdd, Nat.reduceLeDiff, Nat.reduceMul, Int.reduceLE, Int.reduceLT, Int.reduceBEq, e21], by omega, by omega, ht, .inr (by rw [show mid + m - (h + 1) = mid + m - 1 - h by omega]; exact h6), x2, rfl⟩
      · rw [cmpP_lt] at h6
        repeat (first | rw [kz_o] | rw [kz_r0] | simp -dsimp -implicitDefEqProofs only [go_sem, Nat.reduceBEq, Nat.reduceAdd, Nat.reduceLeDiff, Nat.reduceMul, Int.reduceLE, Int.reduceLT, Int.reduceBEq, hks, e20, e21])
        exact nx_keep (h - s) (by omega) (by simp -dsimp -implicitDefEqProofs only [go_sem, Nat.reduceBEq, Nat.reduceAdd, Nat.reduceLeDiff, Nat.reduceMul, Int.reduceLE, Int.reduceLT, Int.reduceBEq, hks]) ⟨s, h, by simp -dsimp -implicitDefEqProofs only [go_sem, Nat.reduceBEq, Nat.reduceAdd, Nat.reduceLeDiff, Nat.reduceMul, Int.reduceLE, Int.reduceLT, Int.reduceBEq, e20], by simp -dsimp -implicitDefEqProofs only [go_sem, Nat.reduceBEq, Nat.reduceAdd, Nat.reduceLeDiff, Nat.reduceMul, Int.reduceLE, Int.reduceLT, Int.reduceBEq], by omega, hs, by omega, x1, .inr h6, rfl⟩
    · have hst : s = t := by omega
      subst hst
      obtain ⟨en, hen⟩ : ∃ en, en = mid + m - s := ⟨_, rfl⟩
      have wen : IntKind.i64.wrap (((mid + m : Nat) : Int) - (s : Int)) = (en : Int) := by rw [wrap_i64] <;> omega
      have hpr := hpre
      have hx1 : s = a ∨ en = b ∨ ltK (keyZ zs) (lat l (s - 1)) (lat l en) := by
        rcases x1 with x | x
        · rcases hlh with ⟨y1, y2, y3⟩ | ⟨y1, y2, y3⟩
          · right; left; omega
          · left; omega
        · by_cases hsa : s = a
          · exact .inl hsa
          · by_cases hen2 : en = b
            · exact .inr (.inl hen2)
            · rw [← hen] at x
              exact .inr (.inr ((hpre.2.2.lt (by omega) (by omega) (by omega) (by omega)).2 x))
      have hx2 : s = m ∨ en = m ∨ ltK (keyZ zs) (lat l (en - 1)) (lat l s) := by
        rcases x2 with x | x
        · omega
        · by_cases hsm : s = m
          · exact .inl hsm
          · by_cases hen2 : en = m
            · exact .inr (.inl hen2)
            · rw [show mid + m - 1 - s = en - 1 by omega] at x
              exact .inr (.inr ((hpre.2.2.gt (by omega) (by omega) (by omega) (by omega)).2 x))
      have hsm1 : s ≤ m := by omega
      have hem : m ≤ en := by omega
      have heb : en ≤ b := by omega
      have has : a ≤ s := by omega
      have hcm : s + (en - m) = mid := by omega
      have fin : ∀ {l1 l2 l3 : List Int}, Rot l l1 s m en → (Pre (keyZ zs) l1 a s mid → Mrg (keyZ zs) l1 l2 a mid) → (Pre (keyZ zs) l2 mid en b → Mrg (keyZ zs) l2 l3 mid b) → Mrg (keyZ zs) l l3 a b := fun r m1 m2 => mrg_sym hpre has hsm1 hem heb r hx1 hx2 (by rw [hcm]; exact m1) (by rw [hcm]; exact m2)
      have pre1 : ∀ {l1 : List Int}, Rot l l1 s m en → Pre (keyZ zs) l1 a s mid ∧ Pre (keyZ zs) l1 mid en b := fun r => by
        have := rot_pre hpre has hsm1 hem heb r hx1 hx2
        rw [hcm] at this; exact ⟨this.1, this.2.1⟩
      have rng : ∀ {l1 : List Int} {u v : Nat}, Mem l l1 a b → a ≤ u → v ≤ b → ∀ i, u ≤ i → i < v → 0 ≤ lat l1 i ∧ lat l1 i < zs.length := fun hm hu hv i h1 h2 => by
        obtain ⟨j, h3, h4, h5⟩ := (hm _).2 ⟨i, by omega, by omega, rfl⟩
        rw [← h5]; exact hrg j h3 h4
      have memR : ∀ {l1 : List Int}, Rot l l1 s m en → Mem l l1 a b := fun r => ((Mem.of_out r.1 (by omega)).join (r.mem hsm1 hem) has (by omega)).join (Mem.of_out (a := en) (b := b) r.1 (by omega)) (by omega) heb
      rcases Decidable.em ((s : Int) < (m : Int)) with f1 | f1 <;> rcases Decidable.em ((a : Int) < (s : Int)) with f2 | f2 <;> rcases Decidable.em ((mid : Int) < (en : Int)) with f3 | f3
      all_goals first | (exfalso; omega) | skip
      all_goals
        repeat (first | rw [kz_o] | rw [kz_r0] | simp -dsimp -implicitDefEqProofs only [go_sem, Nat.reduceBEq, Nat.reduceAdd, Nat.reduceLeDiff, Nat.reduceMul, Int.reduceLE, Int.reduceLT, Int.reduceBEq, hks, e20, e21, wen, f1])
        refine cz_mid [0, 1, 3, 4, 18, 20, 24] (fun e g2 => ∃ l1, hg g2 r .mk = some ⟨1, l1.map cI⟩ ∧ Rot l l1 s m en ∧ Same h' g2 r) ?_ ?_
        · repeat (first | rw [kz_o] | rw [kz_r0] | simp -dsimp -implicitDefEqProofs only [go_sem, Nat.reduceBEq, Nat.reduceAdd, Nat.reduceLeDiff, Nat.reduceMul, Int.reduceLE, Int.reduceLT, Int.reduceBEq, c_cond])
          first
          | (refine gz_dec (fun f4 => ?_) (fun f4 => ?_)
             · repeat (first | rw [kz_o] | rw [kz_r0] | simp -dsimp -implicitDefEqProofs only [go_sem, Nat.reduceBEq, Nat.reduceAdd, Nat.reduceLeDiff, Nat.reduceMul, Int.reduceLE, Int.reduceLT, Int.reduceBEq])
               refine wz_intro (rotate_ok hrow (by omega) (by omega) (by omega) (by omega)) ?_
               rintro v g2 ⟨l1, hr1, hro, hs1⟩
               repeat (first | rw [kz_o] | rw [kz_r0] | simp -dsimp -implicitDefEqProofs only [go_sem, Nat.reduceBEq, Nat.reduceAdd, Nat.reduceLeDiff, Nat.reduceMul, Int.reduceLE, Int.reduceLT, Int.reduceBEq])
               exact jz_keep (by simp -dsimp -implicitDefEqProofs only [go_sem, Nat.reduceBEq, Nat.reduceAdd, Nat.reduceLeDiff, Nat.reduceMul, Int.reduceLE, Int.reduceLT, Int.reduceBEq]) ⟨l1, hr1, hro, hs1⟩
             · repeat (first | rw [kz_o] | rw [kz_r0] | simp -dsimp -implicitDefEqProofs only [go_sem, Nat.reduceBEq, Nat.reduceAdd, Nat.reduceLeDiff, Nat.reduceMul, Int.reduceLE, Int.reduceLT, Int.reduceBEq])
               exact jz_keep (by simp -dsimp -implicitDefEqProofs only [go_sem, Nat.reduceBEq, Nat.reduceAdd, Nat.reduceLeDiff, Nat.reduceMul, Int.reduceLE, Int.reduceLT, Int.reduceBEq]) ⟨l, hrow, (by rw [show en = m by omega]; exact Rot.none_r), Same.refl⟩)
          | exact jz_keep (by simp -dsimp -implicitDefEqProofs only [go_sem, Nat.reduceBEq, Nat.reduceAdd, Nat.reduceLeDiff, Nat.reduceMul, Int.reduceLE, Int.reduceLT, Int.reduceBEq]) ⟨l, hrow, (by rw [show s = m by omega]; exact Rot.none_l), Same.refl⟩
        rintro e2 g2 hks2 ⟨l1, hr1, hro, hs1⟩
        simp -dsimp -implicitDefEqProofs only [go_sem, Nat.reduceBEq, Nat.reduceAdd, Nat.reduceLeDiff, Nat.reduceMul, Int.reduceLE, Int.reduceLT, Int.reduceBEq] at hks2
        repeat (first | rw [kz_o] | rw [kz_r0] | simp -dsimp -implicitDefEqProofs only [go_sem, Nat.reduceBEq, Nat.reduceAdd, Nat.reduceLeDiff, Nat.reduceMul, Int.reduceLE, Int.reduceLT, Int.reduceBEq, hks2, f2])
        have el1 := hro.1.1
        have hp1 := pre1 hro
        have hm1 := memR hro
        have hb1 := (hs1.2 c hcr).trans hbox
        refine cz_mid [0, 3, 4, 18, 24] (fun e g3 => ∃ l2, hg g3 r .mk = some ⟨1, l2.map cI⟩ ∧ Mrg (keyZ zs) l1 l2 a mid ∧ Same h' g3 r) ?_ ?_
        · repeat (first | rw [kz_o] | rw [kz_r0] | simp -dsimp -implicitDefEqProofs only [go_sem, Nat.reduceBEq, Nat.reduceAdd, Nat.reduceLeDiff, Nat.reduceMul, Int.reduceLE, Int.reduceLT, Int.reduceBEq, c_cond])
          first
          | (refine gz_dec (fun f4 => ?_) (fun f4 => ?_)
             · repeat (first | rw [kz_o] | rw [kz_r0] | simp -dsimp -implicitDefEqProofs only [go_sem, Nat.reduceBEq, Nat.reduceAdd, Nat.reduceLeDiff, Nat.reduceMul, Int.reduceLE, Int.reduceLT, Int.reduceBEq])
               have hc := ih a s mid l1 g2 (by omega) hr1 hb1 (by omega) (by omega) (by omega) (by omega) hp1.1 (rng hm1 (by omega) (by omega))
               rw [el1] at hc
               refine wz_intro hc ?_
               rintro v g3 ⟨l2, hr2, hmg, hs2⟩
               repeat (first | rw [kz_o] | rw [kz_r0] | simp -dsimp -implicitDefEqProofs only [go_sem, Nat.reduceBEq, Nat.reduceAdd, Nat.reduceLeDiff, Nat.reduceMul, Int.reduceLE, Int.reduceLT, Int.reduceBEq])
               exact jz_keep (by simp -dsimp -implicitDefEqProofs only [go_sem, Nat.reduceBEq, Nat.reduceAdd, Nat.reduceLeDiff, Nat.reduceMul, Int.reduceLE, Int.reduceLT, Int.reduceBEq]) ⟨l2, hr2, hmg, hs1.trans hs2⟩
             · repeat (first | rw [kz_o] | rw [kz_r0] | simp -dsimp -implicitDefEqProofs only [go_sem, Nat.reduceBEq, Nat.reduceAdd, Nat.reduceLeDiff, Nat.reduceMul, Int.reduceLE, Int.reduceLT, Int.reduceBEq])
               exact jz_keep (by simp -dsimp -implicitDefEqProofs only [go_sem, Nat.reduceBEq, Nat.reduceAdd, Nat.reduceLeDiff, Nat.reduceMul, Int.reduceLE, Int.reduceLT, Int.reduceBEq]) ⟨l1, hr1, mrg_half hp1.1 (by omega), hs1⟩)
          | exact jz_keep (by simp -dsimp -implicitDefEqProofs only [go_sem, Nat.reduceBEq, Nat.reduceAdd, Nat.reduceLeDiff, Nat.reduceMul, Int.reduceLE, Int.reduceLT, Int.reduceBEq]) ⟨l1, hr1, mrg_half hp1.1 (by omega), hs1⟩
        rintro e3 g3 hks3 ⟨l2, hr2, hmg2, hs2⟩
        simp -dsimp -implicitDefEqProofs only [go_sem, Nat.reduceBEq, Nat.reduceAdd, Nat.reduceLeDiff, Nat.reduceMul, Int.reduceLE, Int.reduceLT, Int.reduceBEq] at hks3
        repeat (first | rw [kz_o] | rw [kz_r0] | simp -dsimp -implicitDefEqProofs only [go_sem, Nat.reduceBEq, Nat.reduceAdd, Nat.reduceLeDiff, Nat.reduceMul, Int.reduceLE, Int.reduceLT, Int.reduceBEq, hks3, f3])
        have el2 := hmg2.1.1.trans el1
        have hp2 := hp1.2.out hmg2.1 (.inr (Nat.le_refl _)) (by omega) heb
        have hb2 := (hs2.2 c hcr).trans hbox
        have hm2 : Mem l l2 a b := hm1.trans ((hmg2.2.1.join (Mem.of_out (a := mid) (b := b) hmg2.1 (by omega)) (by omega) (by omega)))
        refine cz_mid [0] (fun e g4 => ∃ l3, hg g4 r .mk = some ⟨1, l3.map cI⟩ ∧ Mrg (keyZ zs) l2 l3 mid b ∧ Same h' g4 r) ?_ ?_
        · repeat (first | rw [kz_o] | rw [kz_r0] | simp -dsimp -implicitDefEqProofs only [go_sem, Nat.reduceBEq, Nat.reduceAdd, Nat.reduceLeDiff, Nat.reduceMul, Int.reduceLE, Int.reduceLT, Int.reduceBEq, c_cond])
          first
          | (refine gz_dec (fun f4 => ?_) (fun f4 => ?_)
             · repeat (first | rw [kz_o] | rw [kz_r0] | simp -dsimp -implicitDefEqProofs only [go_sem, Nat.reduceBEq, Nat.reduceAdd, Nat.reduceLeDiff, Nat.reduceMul, Int.reduceLE, Int.reduceLT, Int.reduceBEq])
               have hc := ih mid en b l2 g3 (by omega) hr2 hb2 (by omega) (by omega) (by omega) (by omega) hp2 (rng hm2 (by omega) (by omega))
               rw [el2] at hc
               refine wz_intro hc ?_
               rintro v g4 ⟨l3, hr3, hmg, hs3⟩
               repeat (first | rw [kz_o] | rw [kz_r0] | simp -dsimp -implicitDefEqProofs only [go_sem, Nat.reduceBEq, Nat.reduceAdd, Nat.reduceLeDiff, Nat.reduceMul, Int.reduceLE, Int.reduceLT, Int.reduceBEq])
               exact jz_keep (by simp -dsimp -implicitDefEqProofs only [go_sem, Nat.reduceBEq, Nat.reduceAdd, Nat.reduceLeDiff, Nat.reduceMul, Int.reduceLE, Int.reduceLT, Int.reduceBEq]) ⟨l3, hr3, hmg, hs2.trans hs3⟩
             · repeat (first | rw [kz_o] | rw [kz_r0] | simp -dsimp -implicitDefEqProofs only [go_sem, Nat.reduceBEq, Nat.reduceAdd, Nat.reduceLeDiff, Nat.reduceMul, Int.reduceLE, Int.reduceLT, Int.reduceBEq])
               exact jz_keep (by simp -dsimp -implicitDefEqProofs only [go_sem, Nat.reduceBEq, Nat.reduceAdd, Nat.reduceLeDiff, Nat.reduceMul, Int.reduceLE, Int.reduceLT, Int.reduceBEq]) ⟨l2, hr2, mrg_half hp2 (by omega), hs2⟩)
          | exact jz_keep (by simp -dsimp -implicitDefEqProofs only [go_sem, Nat.reduceBEq, Nat.reduceAdd, Nat.reduceLeDiff, Nat.reduceMul, Int.reduceLE, Int.reduceLT, Int.reduceBEq]) ⟨l2, hr2, mrg_half hp2 (by omega), hs2⟩
        rintro e4 g4 hks4 ⟨l3, hr3, hmg3, hs3⟩
        repeat (first | rw [kz_o] | rw [kz_r0] | simp -dsimp -implicitDefEqProofs only [go_sem, Nat.reduceBEq, Nat.reduceAdd, Nat.reduceLeDiff, Nat.reduceMul, Int.reduceLE, Int.reduceLT, Int.reduceBEq])
        exact ⟨l3, hr3, fin hro (fun _ => hmg2) (fun _ => hmg3), hs3⟩
end Go.Bi
