/- The walk of the stable sort. -/
import Derived.Test.YtdakdjpndomdpaaFe
import Derived.Test.YtdakdjpndomdpaaFb
set_option linter.unusedSimpArgs false
set_option linter.unusedVariables false
set_option maxRecDepth 20000
namespace Go.Bi
open Go.Proofs
open Go.Ai (wrap_i64 wrap_u64 wrap_u8 Heap)
variable {W0 : World} {P : Program}
set_option maxHeartbeats 4000000
theorem stable_ok {r c : Nat} {zs l : List Int} {f : Adr} {g : H2} (hcr : c ≠ r) (h3 : zs.length ≤ 400) (hrow : hg g r .mk = some ⟨1, l.map cI⟩) (hbox : hg g c .mk = some ⟨1, [.sl f 1 (ints zs)]⟩) (hl : l.length = zs.length)
    (hid : ∀ i, i < l.length → lat l i = i) :
    WC2 Try.prog W0 112 [.raw (.slice (some ⟨r, 0, none⟩) l.length l.length), .raw (.int .i64 l.length), .raw (.func (.func 73) #[] [.pointer (some ⟨c, 0, none⟩)].toArray)] g
      (fun v g' => ∃ l', hg g' r .mk = some ⟨1, l'.map cI⟩ ∧ l'.length = l.length ∧ Good (keyZ zs) l' 0 l.length ∧ Same g g' r) := by
  refine start (P := Try.prog) [[0, 1, 2], [0, 1, 2, 6], [0, 1, 2, 6, 7, 8], [0, 1, 2, 6, 7, 8], [0, 1, 2, 6, 8], [0, 1, 2, 6, 7, 8], [0, 1, 2, 6, 7], [0, 1, 2, 6], [0, 1, 2, 6], [0, 1, 2, 6, 7, 8], [0, 1, 2, 6, 7, 8], [0, 1, 2, 6, 8], [0, 1, 2, 6, 7, 8], [0, 1, 2, 6, 7], [0, 1, 2, 6, 7, 9], [0, 1, 2, 6, 7, 9], [0, 1, 2, 6]] (by kernel_rfl) Try.func112 rfl (by decide) (by decide +kernel) (rs := []) rfl rfl (Nat.le_of_ble_eq_true rfl) ?_
  intro wf
  repeat (first | rw [kz_o] | rw [kz_r0] | simp -dsimp -implicitDefEqProofs only [go_sem, Nat.reduceBEq, Nat.reduceAdd, Nat.reduceLeDiff, Nat.reduceMul, Int.reduceLE, Int.reduceLT, Int.reduceBEq])
  refine lz_keep [0, 1, 2, 6] (fun m e h' => ∃ (k : Nat) (l' : List Int), look e 7 .mk = .raw (.int .i64 ((20 * k : Nat) : Int)) ∧ look e 8 .mk = .raw (.int .i64 ((20 * k + 20 : Nat) : Int)) ∧ m + 20 * k = l.length ∧ hg h' r .mk = some ⟨1, l'.map cI⟩ ∧ l'.length = l.length ∧ (∀ j, j < k → Good (keyZ zs) l' (20 * j) (20 * j + 20)) ∧ (∀ i, 20 * k ≤ i → i < l.length → lat l' i = i) ∧ Same g h' r) l.length ?_ ?_
  · exact ⟨0, l, by simp -dsimp -implicitDefEqProofs only [go_sem, Nat.reduceBEq, Nat.reduceAdd, Nat.reduceLeDiff, Nat.reduceMul, Int.reduceLE, Int.reduceLT, Int.reduceBEq], (by simp -dsimp -implicitDefEqProofs only [go_sem, Nat.reduceBEq, Nat.reduceAdd, Nat.reduceLeDiff, Nat.reduceMul, Int.reduceLE, Int.reduceLT, Int.reduceBEq]; rfl), by omega, hrow, rfl, fun j hj => by omega, fun i _ hi => hid i hi, Same.refl⟩
  · rintro m e h' hks ⟨k, l1, e7, e8, hm, hr, hll, hgood, hrest, hsm⟩
    simp -dsimp -implicitDefEqProofs only [go_sem, Nat.reduceBEq, Nat.reduceAdd, Nat.reduceLeDiff, Nat.reduceMul, Int.reduceLE, Int.reduceLT, Int.reduceBEq] at hks
    have hb1 := (hsm.2 c hcr).trans hbox
    repeat (first | rw [kz_o] | rw [kz_r0] | simp -dsimp -implicitDefEqProofs only [go_sem, Nat.reduceBEq, Nat.reduceAdd, Nat.reduceLeDiff, Nat.reduceMul, Int.reduceLE, Int.reduceLT, Int.reduceBEq, hks, e7, e8])
    refine gz_dec (fun q1 => ?_) (fun q1 => ?_)
    · repeat (first | rw [kz_o] | rw [kz_r0] | simp -dsimp -implicitDefEqProofs only [go_sem, Nat.reduceBEq, Nat.reduceAdd, Nat.reduceLeDiff, Nat.reduceMul, Int.reduceLE, Int.reduceLT, Int.reduceBEq, hks, e7, e8])
      have hc := insSort_ok (W0 := W0) (a := 20 * k) (b := 20 * k + 20) hr hb1 hcr (by omega) (by omega) (by omega) (by omega) (fun i h1 h2 => hrest i h1 (by omega))
      rw [hll] at hc
      refine wz_intro hc ?_
      rintro v g2 ⟨l2, hr2, ho2, hg2, hs2⟩
      have wb : IntKind.i64.wrap (((20 * k + 20 : Nat) : Int) + 20) = ((20 * (k + 1) + 20 : Nat) : Int) := by rw [wrap_i64] <;> omega
      repeat (first | rw [kz_o] | rw [kz_r0] | simp -dsimp -implicitDefEqProofs only [go_sem, Nat.reduceBEq, Nat.reduceAdd, Nat.reduceLeDiff, Nat.reduceMul, Int.reduceLE, Int.reduceLT, Int.reduceBEq, hks, e7, e8, wb])
      refine nx_keep (m - 20) (by omega) (by simp -dsimp -implicitDefEqProofs only [go_sem, Nat.reduceBEq, Nat.reduceAdd, Nat.reduceLeDiff, Nat.reduceMul, Int.reduceLE, Int.reduceLT, Int.reduceBEq, hks]) ⟨k + 1, l2, (by simp -dsimp -implicitDefEqProofs only [go_sem, Nat.reduceBEq, Nat.reduceAdd, Nat.reduceLeDiff, Nat.reduceMul, Int.reduceLE, Int.reduceLT, Int.reduceBEq]; rfl), by simp -dsimp -implicitDefEqProofs only [go_sem, Nat.reduceBEq, Nat.reduceAdd, Nat.reduceLeDiff, Nat.reduceMul, Int.reduceLE, Int.reduceLT, Int.reduceBEq, wb], by omega, hr2, ho2.1.trans hll, fun j hj => ?_, fun i h1 h2 => (ho2.2 i (by omega)).trans (hrest i (by omega) h2), hsm.trans hs2⟩
      by_cases hjk : j = k
      · subst hjk; exact hg2
      · exact (hgood j (by omega)).out ho2 (by omega)
    · repeat (first | rw [kz_o] | rw [kz_r0] | simp -dsimp -implicitDefEqProofs only [go_sem, Nat.reduceBEq, Nat.reduceAdd, Nat.reduceLeDiff, Nat.reduceMul, Int.reduceLE, Int.reduceLT, Int.reduceBEq, hks, e7, e8])
      have hc := insSort_ok (W0 := W0) (a := 20 * k) (b := l1.length) hr hb1 hcr (by omega) (by omega) (by omega) (by omega) (fun i h1 h2 => hrest i h1 (by omega))
      rw [hll] at hc
      refine wz_intro hc ?_
      rintro v g2 ⟨l2, hr2, ho2, hg2, hs2⟩
      have hall : GoodAll (keyZ zs) l2 20 l.length := fun j hj => by
        by_cases hjk : j < k
        · have := (hgood j hjk).out ho2 (by omega)
          rw [Nat.mul_comm, Nat.min_eq_left (by omega)]; exact this
        · have : j = k := by omega
          subst this
          rw [Nat.mul_comm, Nat.min_eq_right (by omega)]; exact hg2
      repeat (first | rw [kz_o] | rw [kz_r0] | simp -dsimp -implicitDefEqProofs only [go_sem, Nat.reduceBEq, Nat.reduceAdd, Nat.reduceLeDiff, Nat.reduceMul, Int.reduceLE, Int.reduceLT, Int.reduceBEq, hks])
      have hsm2 := hsm.trans hs2
      have hl2 := ho2.1.trans hll
      refine lz_keep [0, 1, 2] (fun m e h' => ∃ (bs : Nat) (l' : List Int), look e 6 .mk = .raw (.int .i64 bs) ∧ m = l.length - bs ∧ 20 ≤ bs ∧ bs ≤ 800 ∧ hg h' r .mk = some ⟨1, l'.map cI⟩ ∧ l'.length = l.length ∧ GoodAll (keyZ zs) l' bs l.length ∧ Same g h' r) (l.length - 20) ?_ ?_
      · exact ⟨20, l2, (by simp -dsimp -implicitDefEqProofs only [go_sem, Nat.reduceBEq, Nat.reduceAdd, Nat.reduceLeDiff, Nat.reduceMul, Int.reduceLE, Int.reduceLT, Int.reduceBEq, hks]; rfl), rfl, by omega, by omega, hr2, hl2, hall, hsm2⟩
      · rintro m2 e2 h2 hks2 ⟨bs, l3, e6, hm2, hb20, hb8, hr3, hl3, hga, hs3⟩
        simp -dsimp -implicitDefEqProofs only [go_sem, Nat.reduceBEq, Nat.reduceAdd, Nat.reduceLeDiff, Nat.reduceMul, Int.reduceLE, Int.reduceLT, Int.reduceBEq, hks] at hks2
        repeat (first | rw [kz_o] | rw [kz_r0] | simp -dsimp -implicitDefEqProofs only [go_sem, Nat.reduceBEq, Nat.reduceAdd, Nat.reduceLeDiff, Nat.reduceMul, Int.reduceLE, Int.reduceLT, Int.reduceBEq, hks2, e6])
        refine gz_dec (fun q2 => ?_) (fun q2 => ?_)
        · have w2 : IntKind.i64.wrap (2 * (bs : Int)) = ((2 * bs : Nat) : Int) := by rw [wrap_i64] <;> omega
          repeat (first | rw [kz_o] | rw [kz_r0] | simp -dsimp -implicitDefEqProofs only [go_sem, Nat.reduceBEq, Nat.reduceAdd, Nat.reduceLeDiff, Nat.reduceMul, Int.reduceLE, Int.reduceLT, Int.reduceBEq, hks2, e6, w2])
          refine lz_join 4 [0, 1, 2, 6] (fun m e h' => ∃ (j : Nat) (l' : List Int), look e 7 .mk = .raw (.int .i64 ((j * (2 * bs) : Nat) : Int)) ∧ look e 8 .mk = .raw (.int .i64 ((j * (2 * bs) + 2 * bs : Nat) : Int)) ∧ m + j * (2 * bs) = l.length ∧ hg h' r .mk = some ⟨1, l'.map cI⟩ ∧ l'.length = l.length ∧ Pass (keyZ zs) l' bs l.length j ∧ Same g h' r)
            (fun e h' => ∃ (j : Nat) (l' : List Int), look e 7 .mk = .raw (.int .i64 ((j * (2 * bs) : Nat) : Int)) ∧ j * (2 * bs) ≤ l.length ∧ l.length < j * (2 * bs) + 2 * bs ∧ hg h' r .mk = some ⟨1, l'.map cI⟩ ∧ l'.length = l.length ∧ Pass (keyZ zs) l' bs l.length j ∧ Same g h' r) l.length ?_ ?_ ?_
          · exact ⟨0, l3, (by simp -dsimp -implicitDefEqProofs only [go_sem, Nat.reduceBEq, Nat.reduceAdd, Nat.reduceLeDiff, Nat.reduceMul, Int.reduceLE, Int.reduceLT, Int.reduceBEq, Nat.zero_mul]), (by simp -dsimp -implicitDefEqProofs only [go_sem, Nat.reduceBEq, Nat.reduceAdd, Nat.reduceLeDiff, Nat.reduceMul, Int.reduceLE, Int.reduceLT, Int.reduceBEq, Nat.zero_mul, Nat.zero_add, w2]), by omega, hr3, hl3, Pass.start hga, hs3⟩
          · rintro m3 e3 h3' hks3 ⟨j, l4, e7, e8, hm3, hr4, hl4, hp, hs4⟩
            simp -dsimp -implicitDefEqProofs only [go_sem, Nat.reduceBEq, Nat.reduceAdd, Nat.reduceLeDiff, Nat.reduceMul, Int.reduceLE, Int.reduceLT, Int.reduceBEq, hks2, e6] at hks3
            have hb4 := (hs4.2 c hcr).trans hbox
            repeat (first | rw [kz_o] | rw [kz_r0] | simp -dsimp -implicitDefEqProofs only [go_sem, Nat.reduceBEq, Nat.reduceAdd, Nat.reduceLeDiff, Nat.reduceMul, Int.reduceLE, Int.reduceLT, Int.reduceBEq, hks3, e7, e8])
            refine gz_dec (fun q3 => ?_) (fun q3 => ?_)
            · have w3 : IntKind.i64.wrap (((j * (2 * bs) : Nat) : Int) + (bs : Int)) = ((j * (2 * bs) + bs : Nat) : Int) := wrap_add (by omega)
              have w4 : IntKind.i64.wrap (((j * (2 * bs) + 2 * bs : Nat) : Int) + ((2 * bs : Nat) : Int)) = (((j + 1) * (2 * bs) + 2 * bs : Nat) : Int) := by rw [wrap_add (by omega), Nat.add_mul j 1, Nat.one_mul]
              repeat (first | rw [kz_o] | rw [kz_r0] | simp -dsimp -implicitDefEqProofs only [go_sem, Nat.reduceBEq, Nat.reduceAdd, Nat.reduceLeDiff, Nat.reduceMul, Int.reduceLE, Int.reduceLT, Int.reduceBEq, hks3, e7, e8, w3])
              obtain ⟨ga, gb⟩ := hp.pair (by omega) (by omega)
              rw [Nat.min_eq_left (by omega)] at gb
              have hc := symMerge_ok (W0 := W0) hcr h3 l.length (j * (2 * bs)) (j * (2 * bs) + bs) (j * (2 * bs) + 2 * bs) l4 h3' (by omega) hr4 hb4 (by omega) (by omega) (by omega) (by omega) (ga.pre gb) (ga.rng gb (by omega) (by omega))
              rw [hl4] at hc
              refine wz_intro hc ?_
              rintro v g5 ⟨l5, hr5, hmg, hs5⟩
              repeat (first | rw [kz_o] | rw [kz_r0] | simp -dsimp -implicitDefEqProofs only [go_sem, Nat.reduceBEq, Nat.reduceAdd, Nat.reduceLeDiff, Nat.reduceMul, Int.reduceLE, Int.reduceLT, Int.reduceBEq, hks3, e7, e8, w4])
              exact nx_keep (m3 - 2 * bs) (by omega) (by simp -dsimp -implicitDefEqProofs only [go_sem, Nat.reduceBEq, Nat.reduceAdd, Nat.reduceLeDiff, Nat.reduceMul, Int.reduceLE, Int.reduceLT, Int.reduceBEq, hks3]) ⟨j + 1, l5, (by simp -dsimp -implicitDefEqProofs only [go_sem, Nat.reduceBEq, Nat.reduceAdd, Nat.reduceLeDiff, Nat.reduceMul, Int.reduceLE, Int.reduceLT, Int.reduceBEq]; rw [Nat.add_mul j 1, Nat.one_mul]), by simp -dsimp -implicitDefEqProofs only [go_sem, Nat.reduceBEq, Nat.reduceAdd, Nat.reduceLeDiff, Nat.reduceMul, Int.reduceLE, Int.reduceLT, Int.reduceBEq, w2, w4], by rw [Nat.add_mul j 1, Nat.one_mul]; omega, hr5, hmg.1.1.trans hl4, hp.step (by omega) (by omega) (fun _ => hmg), hs4.trans hs5⟩
            · repeat (first | rw [kz_o] | rw [kz_r0] | simp -dsimp -implicitDefEqProofs only [go_sem, Nat.reduceBEq, Nat.reduceAdd, Nat.reduceLeDiff, Nat.reduceMul, Int.reduceLE, Int.reduceLT, Int.reduceBEq, hks3, e7, e8])
              exact out_keep (by simp -dsimp -implicitDefEqProofs only [go_sem, Nat.reduceBEq, Nat.reduceAdd, Nat.reduceLeDiff, Nat.reduceMul, Int.reduceLE, Int.reduceLT, Int.reduceBEq, hks3]) ⟨j, l4, by simp -dsimp -implicitDefEqProofs only [go_sem, Nat.reduceBEq, Nat.reduceAdd, Nat.reduceLeDiff, Nat.reduceMul, Int.reduceLE, Int.reduceLT, Int.reduceBEq], by omega, by omega, hr4, hl4, hp, hs4⟩
          · rintro e3 h3' hks3 ⟨j, l4, e7, hj1, hj2, hr4, hl4, hp, hs4⟩
            simp -dsimp -implicitDefEqProofs only [go_sem, Nat.reduceBEq, Nat.reduceAdd, Nat.reduceLeDiff, Nat.reduceMul, Int.reduceLE, Int.reduceLT, Int.reduceBEq, hks2, e6] at hks3
            have hb4 := (hs4.2 c hcr).trans hbox
            have w3 : IntKind.i64.wrap (((j * (2 * bs) : Nat) : Int) + (bs : Int)) = ((j * (2 * bs) + bs : Nat) : Int) := wrap_add (by omega)
            have w5 : IntKind.i64.wrap ((bs : Int) * 2) = ((2 * bs : Nat) : Int) := by rw [wrap_i64] <;> omega
            repeat (first | rw [kz_o] | rw [kz_r0] | simp -dsimp -implicitDefEqProofs only [go_sem, Nat.reduceBEq, Nat.reduceAdd, Nat.reduceLeDiff, Nat.reduceMul, Int.reduceLE, Int.reduceLT, Int.reduceBEq, hks3, e7, w3])
            refine gz_dec (fun q3 => ?_) (fun q3 => ?_)
            · obtain ⟨ga, gb⟩ := hp.pair (by omega) (by omega)
              rw [Nat.min_eq_right (by omega)] at gb
              have hc := symMerge_ok (W0 := W0) hcr h3 l.length (j * (2 * bs)) (j * (2 * bs) + bs) l.length l4 h3' (by omega) hr4 hb4 (by omega) (by omega) (by omega) (by omega) (ga.pre gb) (ga.rng gb (by omega) (by omega))
              rw [hl4] at hc
              repeat (first | rw [kz_o] | rw [kz_r0] | simp -dsimp -implicitDefEqProofs only [go_sem, Nat.reduceBEq, Nat.reduceAdd, Nat.reduceLeDiff, Nat.reduceMul, Int.reduceLE, Int.reduceLT, Int.reduceBEq, hks3, e7, w3])
              refine wz_intro hc ?_
              rintro v g5 ⟨l5, hr5, hmg, hs5⟩
              repeat (first | rw [kz_o] | rw [kz_r0] | simp -dsimp -implicitDefEqProofs only [go_sem, Nat.reduceBEq, Nat.reduceAdd, Nat.reduceLeDiff, Nat.reduceMul, Int.reduceLE, Int.reduceLT, Int.reduceBEq, hks3, e7, w5])
              exact nx_keep (l.length - 2 * bs) (by omega) (by simp -dsimp -implicitDefEqProofs only [go_sem, Nat.reduceBEq, Nat.reduceAdd, Nat.reduceLeDiff, Nat.reduceMul, Int.reduceLE, Int.reduceLT, Int.reduceBEq, hks2, hks3]) ⟨2 * bs, l5, by simp -dsimp -implicitDefEqProofs only [go_sem, Nat.reduceBEq, Nat.reduceAdd, Nat.reduceLeDiff, Nat.reduceMul, Int.reduceLE, Int.reduceLT, Int.reduceBEq, w5], rfl, by omega, by omega, hr5, hmg.1.1.trans hl4, hp.last (by omega) (by omega) (by omega) (fun _ _ => hmg) (fun h => absurd (by omega) h), hs4.trans hs5⟩
            · repeat (first | rw [kz_o] | rw [kz_r0] | simp -dsimp -implicitDefEqProofs only [go_sem, Nat.reduceBEq, Nat.reduceAdd, Nat.reduceLeDiff, Nat.reduceMul, Int.reduceLE, Int.reduceLT, Int.reduceBEq, hks3, e7, w5])
              exact nx_keep (l.length - 2 * bs) (by omega) (by simp -dsimp -implicitDefEqProofs only [go_sem, Nat.reduceBEq, Nat.reduceAdd, Nat.reduceLeDiff, Nat.reduceMul, Int.reduceLE, Int.reduceLT, Int.reduceBEq, hks2, hks3]) ⟨2 * bs, l4, by simp -dsimp -implicitDefEqProofs only [go_sem, Nat.reduceBEq, Nat.reduceAdd, Nat.reduceLeDiff, Nat.reduceMul, Int.reduceLE, Int.reduceLT, Int.reduceBEq, w5], rfl, by omega, by omega, hr4, hl4, hp.last (by omega) (by omega) (by omega) (fun h => absurd h (by omega)) (fun _ => rfl), hs4⟩
        · repeat (first | rw [kz_o] | rw [kz_r0] | simp -dsimp -implicitDefEqProofs only [go_sem, Nat.reduceBEq, Nat.reduceAdd, Nat.reduceLeDiff, Nat.reduceMul, Int.reduceLE, Int.reduceLT, Int.reduceBEq, hks2, e6])
          exact ⟨l3, hr3, hl3, hga.whole (by omega), hs3⟩
end Go.Bi
