/- The walk of the sort of small blocks. -/
import Derived.Test.YtdakdjpndomdpaaFc
import Derived.Test.YtdakdjpndomdpaaB2
set_option linter.unusedSimpArgs false
set_option linter.unusedVariables false
set_option maxRecDepth 20000
namespace Go.Bi
open Go.Proofs
open Go.Ai (wrap_i64 wrap_u64 wrap_u8 Heap)
variable {W0 : World} {P : Program}
set_option maxHeartbeats 4000000
theorem insSort_ok {a b r c : Nat} {l zs : List Int} {f : Adr} {g : H2} (hrow : hg g r .mk = some ⟨1, l.map cI⟩) (hbox : hg g c .mk = some ⟨1, [.sl f 1 (ints zs)]⟩) (hcr : c ≠ r) (hab : a ≤ b) (hb : b ≤ l.length) (hl : l.length = zs.length) (h3 : l.length ≤ 400)
    (hid : ∀ i, a ≤ i → i < b → lat l i = i) :
    WC2 Try.prog W0 137 [.raw (.slice (some ⟨r, 0, none⟩) l.length l.length), .raw (.int .i64 a), .raw (.int .i64 b), .raw (.func (.func 73) #[] [.pointer (some ⟨c, 0, none⟩)].toArray)] g
      (fun v g' => ∃ l', hg g' r .mk = some ⟨1, l'.map cI⟩ ∧ Out l l' a b ∧ Good (keyZ zs) l' a b ∧ Same g g' r) := by
  refine start (P := Try.prog) [[0, 1, 2, 3], [0, 1, 2, 3, 8], [0, 1, 2, 3, 8], [0, 1, 2, 3, 8], [0, 1, 2, 3, 8, 9], [0, 1, 2, 3, 8, 9], [0, 1, 2, 3, 8, 9]] (by kernel_rfl) Try.func137 rfl (by decide) (by decide +kernel) (rs := []) rfl rfl (Nat.le_of_ble_eq_true rfl) ?_
  intro wf
  have wa1 : IntKind.i64.wrap ((a : Int) + 1) = ((a + 1 : Nat) : Int) := by rw [wrap_i64] <;> omega
  repeat (first | rw [kz_o] | rw [kz_r0] | simp -dsimp -implicitDefEqProofs only [go_sem, Nat.reduceBEq, Nat.reduceAdd, Nat.reduceLeDiff, Nat.reduceMul, Int.reduceLE, Int.reduceLT, Int.reduceBEq, wa1])
  refine lz_keep [0, 1, 2, 3] (fun m e h' => ∃ (i : Nat) (l' : List Int), look e 8 .mk = .raw (.int .i64 i) ∧ m + i = b + 1 ∧ (a + 1 ≤ i ∧ (i ≤ b ∨ a = b)) ∧ hg h' r .mk = some ⟨1, l'.map cI⟩ ∧ Out l l' a b ∧ (∀ x, i ≤ x → lat l' x = lat l x) ∧ (i ≤ b → Good (keyZ zs) l' a i) ∧ Same g h' r) (b - a) ?_ ?_
  · refine ⟨a + 1, l, by simp -dsimp -implicitDefEqProofs only [go_sem, Nat.reduceBEq, Nat.reduceAdd, Nat.reduceLeDiff, Nat.reduceMul, Int.reduceLE, Int.reduceLT, Int.reduceBEq, wa1], by omega, ⟨by omega, by omega⟩, hrow, Out.refl, fun _ _ => rfl, fun h => Good.one (hid a (by omega) (by omega)), Same.refl⟩
  · rintro m e h' hks ⟨i, l1, e8, hm, hi, hr, ho, hrest, hgood, hsm⟩
    simp -dsimp -implicitDefEqProofs only [go_sem, Nat.reduceBEq, Nat.reduceAdd, Nat.reduceLeDiff, Nat.reduceMul, Int.reduceLE, Int.reduceLT, Int.reduceBEq] at hks
    repeat (first | rw [kz_o] | rw [kz_r0] | simp -dsimp -implicitDefEqProofs only [go_sem, Nat.reduceBEq, Nat.reduceAdd, Nat.reduceLeDiff, Nat.reduceMul, Int.reduceLE, Int.reduceLT, Int.reduceBEq, hks, e8])
    refine gz_dec (fun h4 => ?_) (fun h4 => ?_)
    · repeat (first | rw [kz_o] | rw [kz_r0] | simp -dsimp -implicitDefEqProofs only [go_sem, Nat.reduceBEq, Nat.reduceAdd, Nat.reduceLeDiff, Nat.reduceMul, Int.reduceLE, Int.reduceLT, Int.reduceBEq, hks, e8])
      have hg0 := hgood (by omega)
      have hli : lat l1 i = i := (hrest i (by omega)).trans (hid i (by omega) (by omega))
      refine lz_join 2 [0, 1, 2, 3, 8] (fun m e h2 => ∃ (j : Nat) (l2 : List Int), look e 9 .mk = .raw (.int .i64 j) ∧ m = j ∧ a ≤ j ∧ j ≤ i ∧ hg h2 r .mk = some ⟨1, l2.map cI⟩ ∧ Rot l1 l2 j i (i + 1) ∧ (j = i ∨ keyZ zs (lat l1 j) < keyZ zs (lat l1 i)) ∧ Same g h2 r)
        (fun e h2 => ∃ l2, hg h2 r .mk = some ⟨1, l2.map cI⟩ ∧ Out l1 l2 a (i + 1) ∧ Good (keyZ zs) l2 a (i + 1) ∧ Same g h2 r) i ?_ ?_ ?_
      · exact ⟨i, l1, by simp -dsimp -implicitDefEqProofs only [go_sem, Nat.reduceBEq, Nat.reduceAdd, Nat.reduceLeDiff, Nat.reduceMul, Int.reduceLE, Int.reduceLT, Int.reduceBEq], rfl, by omega, Nat.le_refl _, hr, Rot.none_l, .inl rfl, hsm⟩
      · rintro m2 e2 h2 hks2 ⟨j, l2, e9, hmj, haj, hji, hr2, hrot, hlast, hsm2⟩
        subst hmj
        simp -dsimp -implicitDefEqProofs only [go_sem, Nat.reduceBEq, Nat.reduceAdd, Nat.reduceLeDiff, Nat.reduceMul, Int.reduceLE, Int.reduceLT, Int.reduceBEq, hks] at hks2
        have hll : l2.length = l.length := hrot.1.1.trans ho.1
        repeat (first | rw [kz_o] | rw [kz_r0] | simp -dsimp -implicitDefEqProofs only [go_sem, Nat.reduceBEq, Nat.reduceAdd, Nat.reduceLeDiff, Nat.reduceMul, Int.reduceLE, Int.reduceLT, Int.reduceBEq, hks2, e9])
        refine dq_intro [(0, []), (1, []), (2, []), (3, []), (4, []), (5, []), (6, []), (7, []), (8, []), (9, []), (10, []), (11, []), (12, []), (13, []), (14, []), (15, []), (16, [])] (by kernel_rfl) ?_
        repeat (first | rw [kz_o] | rw [kz_r0] | simp -dsimp -implicitDefEqProofs only [go_sem, Nat.reduceBEq, Nat.reduceAdd, Nat.reduceLeDiff, Nat.reduceMul, Int.reduceLE, Int.reduceLT, Int.reduceBEq, hks2, e9])
        have hout : ∀ l3 : List Int, Rot l1 l3 m2 i (i + 1) → (m2 = a ∨ ¬ keyZ zs (lat l1 (m2 - 1)) < keyZ zs (lat l1 i)) → Out l1 l3 a (i + 1) ∧ Good (keyZ zs) l3 a (i + 1) := fun l3 hro hx =>
          ⟨hro.1.wide haj (Nat.le_refl _), hg0.grow hli haj hji hro hx hlast⟩
        refine gz_dec (fun h5 => ?_) (fun h5 => ?_)
        rotate_left
        · repeat (first | rw [kz_o] | rw [kz_r0] | simp -dsimp -implicitDefEqProofs only [go_sem, Nat.reduceBEq, Nat.reduceAdd, Nat.reduceLeDiff, Nat.reduceMul, Int.reduceLE, Int.reduceLT, Int.reduceBEq, hks2, e9, h5])
          obtain ⟨p1, p2⟩ := hout l2 hrot (.inl (by omega))
          exact out_keep (by simp -dsimp -implicitDefEqProofs only [go_sem, Nat.reduceBEq, Nat.reduceAdd, Nat.reduceLeDiff, Nat.reduceMul, Int.reduceLE, Int.reduceLT, Int.reduceBEq, hks2]) ⟨l2, hr2, p1, p2, hsm2⟩
        have wj : IntKind.i64.wrap ((m2 : Int) - 1) = ((m2 - 1 : Nat) : Int) := by rw [wrap_i64] <;> omega
        have ia : (0 : Int) ≤ ((m2 : Nat) : Int) ∧ ((m2 : Nat) : Int) < (l.length : Int) := by omega
        have ib : (0 : Int) ≤ ((m2 - 1 : Nat) : Int) ∧ ((m2 - 1 : Nat) : Int) < (l.length : Int) := by omega
        have ja : m2 < l.length := by omega
        have jb : m2 - 1 < l.length := by omega
        have ga := get_I (l := l2) (i := m2) (by omega)
        have gb := get_I (l := l2) (i := m2 - 1) (by omega)
        have ea : lat l2 m2 = lat l1 i := by have := hrot.2.1 0 (by omega); simpa using this
        have eb : lat l2 (m2 - 1) = lat l1 (m2 - 1) := hrot.1.2 _ (by omega)
        have ra := hg0.2.1 (m2 - 1) (by omega) (by omega)
        have hbox2 : hg h2 c .mk = some ⟨1, [.sl f 1 (ints zs)]⟩ := (hsm2.2 c hcr).trans hbox
        repeat (first | rw [kz_o] | rw [kz_r0] | simp -dsimp -implicitDefEqProofs only [go_sem, Nat.reduceBEq, Nat.reduceAdd, Nat.reduceLeDiff, Nat.reduceMul, Int.reduceLE, Int.reduceLT, Int.reduceBEq, hks2, e9, h5, hr2, wj, ia, ib, ja, jb, ga, gb])
        refine wz_intro (cmp_ok hbox2 (by rw [ea, hli]; omega) (by rw [eb]; omega)) ?_
        rintro _ h9 ⟨rfl, rfl⟩
        repeat (first | rw [kz_o] | rw [kz_r0] | simp -dsimp -implicitDefEqProofs only [go_sem, Nat.reduceBEq, Nat.reduceAdd, Nat.reduceLeDiff, Nat.reduceMul, Int.reduceLE, Int.reduceLT, Int.reduceBEq, hks2, e9, h5, hr2, wj, ia, ib, ja, jb, ga, gb])
        refine gz_dec (fun h6 => ?_) (fun h6 => ?_)
        rotate_left
        · repeat (first | rw [kz_o] | rw [kz_r0] | simp -dsimp -implicitDefEqProofs only [go_sem, Nat.reduceBEq, Nat.reduceAdd, Nat.reduceLeDiff, Nat.reduceMul, Int.reduceLE, Int.reduceLT, Int.reduceBEq, hks2, e9, h5])
          rw [cmpP_lt, ea, eb] at h6
          obtain ⟨p1, p2⟩ := hout l2 hrot (.inr h6)
          exact out_keep (by simp -dsimp -implicitDefEqProofs only [go_sem, Nat.reduceBEq, Nat.reduceAdd, Nat.reduceLeDiff, Nat.reduceMul, Int.reduceLE, Int.reduceLT, Int.reduceBEq, hks2]) ⟨l2, hr2, p1, p2, hsm2⟩
        rw [cmpP_lt, ea, eb] at h6
        have w1 := wrt_I (l := l2) (i := m2) (v := lat l2 (m2 - 1)) (by omega)
        have w2 := wrt_I (l := l2.set m2 (lat l2 (m2 - 1))) (i := m2 - 1) (v := lat l2 m2) (by simp; omega)
        repeat (first | rw [kz_o] | rw [kz_r0] | simp -dsimp -implicitDefEqProofs only [go_sem, Nat.reduceBEq, Nat.reduceAdd, Nat.reduceLeDiff, Nat.reduceMul, Int.reduceLE, Int.reduceLT, Int.reduceBEq, hks2, e9])
        refine dq_intro [(0, []), (1, []), (2, []), (3, []), (4, []), (5, []), (6, []), (7, []), (8, []), (9, []), (10, []), (11, []), (12, []), (13, []), (14, []), (15, []), (16, []), (17, [])] (by kernel_rfl) ?_
        repeat (first | rw [kz_o] | rw [kz_r0] | simp -dsimp -implicitDefEqProofs only [go_sem, Nat.reduceBEq, Nat.reduceAdd, Nat.reduceLeDiff, Nat.reduceMul, Int.reduceLE, Int.reduceLT, Int.reduceBEq, hks2, e9, hr2, wj, ia, ib, ja, jb, ga, gb, w1, w2])
        refine nx_keep (m2 - 1) (by omega) (by simp -dsimp -implicitDefEqProofs only [go_sem, Nat.reduceBEq, Nat.reduceAdd, Nat.reduceLeDiff, Nat.reduceMul, Int.reduceLE, Int.reduceLT, Int.reduceBEq, hks2]) ⟨m2 - 1, (l2.set m2 (lat l2 (m2 - 1))).set (m2 - 1) (lat l2 m2), by simp -dsimp -implicitDefEqProofs only [go_sem, Nat.reduceBEq, Nat.reduceAdd, Nat.reduceLeDiff, Nat.reduceMul, Int.reduceLE, Int.reduceLT, Int.reduceBEq, wj], rfl, by omega, by omega, by simp -dsimp -implicitDefEqProofs only [go_sem, Nat.reduceBEq, Nat.reduceAdd, Nat.reduceLeDiff, Nat.reduceMul, Int.reduceLE, Int.reduceLT, Int.reduceBEq], rot_down hrot (by omega) hji (by have := ho.1; omega), .inr h6, hsm2.trans Same.set⟩
      · rintro e2 h2 hks2 ⟨l2, hr2, ho2, hg2, hsm2⟩
        simp -dsimp -implicitDefEqProofs only [go_sem, Nat.reduceBEq, Nat.reduceAdd, Nat.reduceLeDiff, Nat.reduceMul, Int.reduceLE, Int.reduceLT, Int.reduceBEq, hks] at hks2
        have wi1 : IntKind.i64.wrap ((i : Int) + 1) = ((i + 1 : Nat) : Int) := by rw [wrap_i64] <;> omega
        repeat (first | rw [kz_o] | rw [kz_r0] | simp -dsimp -implicitDefEqProofs only [go_sem, Nat.reduceBEq, Nat.reduceAdd, Nat.reduceLeDiff, Nat.reduceMul, Int.reduceLE, Int.reduceLT, Int.reduceBEq, hks2, wi1])
        refine nx_keep (m - 1) (by omega) (by simp -dsimp -implicitDefEqProofs only [go_sem, Nat.reduceBEq, Nat.reduceAdd, Nat.reduceLeDiff, Nat.reduceMul, Int.reduceLE, Int.reduceLT, Int.reduceBEq, hks, hks2]) ⟨i + 1, l2, by simp -dsimp -implicitDefEqProofs only [go_sem, Nat.reduceBEq, Nat.reduceAdd, Nat.reduceLeDiff, Nat.reduceMul, Int.reduceLE, Int.reduceLT, Int.reduceBEq], by omega, ⟨by omega, .inl (by omega)⟩, hr2, ho.trans (ho2.wide (Nat.le_refl _) (by omega)), fun x hx => (ho2.2 x (by omega)).trans (hrest x (by omega)), fun _ => hg2, hsm2⟩
    · repeat (first | rw [kz_o] | rw [kz_r0] | simp -dsimp -implicitDefEqProofs only [go_sem, Nat.reduceBEq, Nat.reduceAdd, Nat.reduceLeDiff, Nat.reduceMul, Int.reduceLE, Int.reduceLT, Int.reduceBEq, hks, e8])
      refine ⟨l1, hr, ho, ?_, hsm⟩
      by_cases hib : i ≤ b
      · have : i = b := by omega
        subst this; exact hgood (Nat.le_refl _)
      · have : a = b := by omega
        subst this
        exact ⟨fun i j h1 h2 h3 => by omega, fun i h1 h2 => by omega, fun v h1 h2 => by omega⟩
end Go.Bi
