/- The walk of the program's TopOf. -/
import Derived.Test.YtdakdjpndomdpaaFg
import Derived.Test.YtdakdjpndomdpaaB2
set_option linter.unusedSimpArgs false
set_option linter.unusedVariables false
set_option maxRecDepth 20000
namespace Go.Bi
open Go.Proofs
open Go.Ai (wrap_i64 wrap_u64 wrap_u8 Heap)
variable {W0 : World} {P : Program}
set_option maxHeartbeats 4000000
def topI (lo : List Int) (k : Int) : List Int := if inI k 1 8 = true ∧ lo.length ≤ 400 then topP (keyZ lo) lo.length (min k.toNat lo.length) else []
theorem OwnI.blk {N : Nat} {g : H2} {v : X} {zs : List Int} (o : OwnI N g v zs) (h : zs ≠ []) : ∃ b, v = .raw (.slice (some ⟨b, 0, none⟩) zs.length zs.length) ∧ N ≤ b ∧ b < hn g .mk ∧ hg g b .mk = some ⟨1, zs.map cI⟩ := by
  obtain ⟨_, h1 | h1⟩ := o
  · exact absurd (List.eq_nil_of_length_eq_zero h1.2) h
  · exact h1
def upto (n : Nat) : List Int := (List.range n).map Int.ofNat
theorem upto_succ {n : Nat} : upto (n + 1) = upto n ++ [(n : Int)] := by simp [upto, List.range_succ]
theorem upto_len {n : Nat} : (upto n).length = n := by simp [upto]
theorem lat_upto {n i : Nat} (h : i < n) : lat (upto n) i = i := by simp [lat, upto, List.getD_eq_getElem?_getD, List.getElem?_range h]
theorem mn_nat {a b : Int} {n : Nat} (h : 0 ≤ a) (hb : b = (n : Int)) : 0 ≤ Go.Ai.mnI a b ∧ Go.Ai.mnI a b ≤ n ∧ (Go.Ai.mnI a b).toNat = min a.toNat n := by
  unfold Go.Ai.mnI; split <;> omega
theorem implTopOf_ok {f : Adr} {zs : List Int} {k : Int} {g : H2} : PI Try.prog W0 33 [.sl f 1 (ints zs), .raw (.int .i64 k)] g (topI zs k) := by
  refine WC2.cut (K := fun x g' => g.le g' ∧ ((x = .raw (.slice none 0 0) ∧ topI zs k = []) ∨ ∃ (r m : Nat) (l : List Int), x = .raw (.slice (some ⟨r, 0, none⟩) m m) ∧ hn g .mk ≤ r ∧ r < hn g' .mk ∧ hg g' r .mk = some ⟨1, l.map cI⟩ ∧ m ≤ l.length ∧ l.take m = topI zs k)) ?_ ?_
  · refine start (P := Try.prog) [[0, 1], [1, 2], [], [1, 2], [1, 2, 5], [1, 2, 5, 17, 18], [1, 2, 5, 17, 18], [1, 2, 5, 6, 17, 18], [1, 2, 5, 17, 18], [1, 2, 5], [1, 5]] (by kernel_rfl) Try.func33 rfl (by decide) (by decide +kernel) (rs := [.tmp 4]) rfl rfl (Nat.le_of_ble_eq_true rfl) ?_
    intro wf
    repeat (first | rw [kz_o] | rw [kz_r0] | simp -dsimp -implicitDefEqProofs only [go_sem, Nat.reduceBEq, Nat.reduceAdd, Nat.reduceLeDiff, Nat.reduceMul, Int.reduceLE, Int.reduceLT, Int.reduceBEq])
    refine wz_intro in_ok ?_
    rintro _ h1 ⟨rfl, rfl⟩
    have early : ¬ (inI k 1 8 = true ∧ zs.length ≤ 400) → topI zs k = [] := fun h => if_neg h
    cases hin : inI k 1 8
    · repeat (first | rw [kz_o] | rw [kz_r0] | simp -dsimp -implicitDefEqProofs only [go_sem, Nat.reduceBEq, Nat.reduceAdd, Nat.reduceLeDiff, Nat.reduceMul, Int.reduceLE, Int.reduceLT, Int.reduceBEq])
      exact ⟨le_push (H2.le.refl _), .inl ⟨rfl, early (by rw [hin]; simp)⟩⟩
    · repeat (first | rw [kz_o] | rw [kz_r0] | simp -dsimp -implicitDefEqProofs only [go_sem, Nat.reduceBEq, Nat.reduceAdd, Nat.reduceLeDiff, Nat.reduceMul, Int.reduceLE, Int.reduceLT, Int.reduceBEq])
      refine gz_dec (fun h2 => ?_) (fun h2 => ?_)
      · repeat (first | rw [kz_o] | rw [kz_r0] | simp -dsimp -implicitDefEqProofs only [go_sem, Nat.reduceBEq, Nat.reduceAdd, Nat.reduceLeDiff, Nat.reduceMul, Int.reduceLE, Int.reduceLT, Int.reduceBEq])
        exact ⟨le_push (H2.le.refl _), .inl ⟨rfl, early (by omega)⟩⟩
      · repeat (first | rw [kz_o] | rw [kz_r0] | simp -dsimp -implicitDefEqProofs only [go_sem, Nat.reduceBEq, Nat.reduceAdd, Nat.reduceLeDiff, Nat.reduceMul, Int.reduceLE, Int.reduceLT, Int.reduceBEq])
        have hk2 := inI_t hin
        refine lz_join 0 [1, 2] (fun m e h' => ∃ (i r : Nat), look e 17 .mk = .raw (.int .i64 zs.length) ∧ look e 18 .mk = .raw (.int .i64 (i : Nat)) ∧ m + i = zs.length ∧ look e 5 .mk = .raw (.slice (some ⟨r, 0, none⟩) i i) ∧ hn g .mk < r ∧ r < hn h' .mk ∧ hg h' r .mk = some ⟨1, (upto i).map cI⟩ ∧ g.le h' ∧ hg h' (hn g .mk) .mk = some ⟨1, [.sl f 1 (ints zs)]⟩)
          (fun e h' => ∃ (r : Nat), look e 5 .mk = .raw (.slice (some ⟨r, 0, none⟩) zs.length zs.length) ∧ hn g .mk < r ∧ r < hn h' .mk ∧ hg h' r .mk = some ⟨1, (upto zs.length).map cI⟩ ∧ g.le h' ∧ hg h' (hn g .mk) .mk = some ⟨1, [.sl f 1 (ints zs)]⟩) zs.length ?_ ?_ ?_
        · exact ⟨0, hn g .mk + 1, by simp -dsimp -implicitDefEqProofs only [go_sem, Nat.reduceBEq, Nat.reduceAdd, Nat.reduceLeDiff, Nat.reduceMul, Int.reduceLE, Int.reduceLT, Int.reduceBEq], by simp -dsimp -implicitDefEqProofs only [go_sem, Nat.reduceBEq, Nat.reduceAdd, Nat.reduceLeDiff, Nat.reduceMul, Int.reduceLE, Int.reduceLT, Int.reduceBEq], by omega, by simp -dsimp -implicitDefEqProofs only [go_sem, Nat.reduceBEq, Nat.reduceAdd, Nat.reduceLeDiff, Nat.reduceMul, Int.reduceLE, Int.reduceLT, Int.reduceBEq], by omega, by simp -dsimp -implicitDefEqProofs only [go_sem, Nat.reduceBEq, Nat.reduceAdd, Nat.reduceLeDiff, Nat.reduceMul, Int.reduceLE, Int.reduceLT, Int.reduceBEq] <;> omega, by simp -dsimp -implicitDefEqProofs only [go_sem, Nat.reduceBEq, Nat.reduceAdd, Nat.reduceLeDiff, Nat.reduceMul, Int.reduceLE, Int.reduceLT, Int.reduceBEq] <;> rfl, le_push (le_push (H2.le.refl _)), by simp -dsimp -implicitDefEqProofs only [go_sem, Nat.reduceBEq, Nat.reduceAdd, Nat.reduceLeDiff, Nat.reduceMul, Int.reduceLE, Int.reduceLT, Int.reduceBEq] <;> simp⟩
        · rintro m e h' hks ⟨i, r, e17, e18, hm, e5, hr1, hr2, hr3, hle, hbox⟩
          simp -dsimp -implicitDefEqProofs only [go_sem, Nat.reduceBEq, Nat.reduceAdd, Nat.reduceLeDiff, Nat.reduceMul, Int.reduceLE, Int.reduceLT, Int.reduceBEq] at hks
          repeat (first | rw [kz_o] | rw [kz_r0] | simp -dsimp -implicitDefEqProofs only [go_sem, Nat.reduceBEq, Nat.reduceAdd, Nat.reduceLeDiff, Nat.reduceMul, Int.reduceLE, Int.reduceLT, Int.reduceBEq, hks, e17, e18, e5])
          refine gz_dec (fun h3 => ?_) (fun h3 => ?_)
          · have w1 : IntKind.i64.wrap ((i : Int) + 1) = ((i + 1 : Nat) : Int) := by rw [wrap_i64] <;> omega
            repeat (first | rw [kz_o] | rw [kz_r0] | simp -dsimp -implicitDefEqProofs only [go_sem, Nat.reduceBEq, Nat.reduceAdd, Nat.reduceLeDiff, Nat.reduceMul, Int.reduceLE, Int.reduceLT, Int.reduceBEq, hks, e17, e18, e5])
            have ow : OwnI (hn g .mk + 1) h' (.raw (.slice (some ⟨r, 0, none⟩) i i)) (upto i) := ⟨by simp [upto_len], .inr ⟨r, by rw [upto_len], by omega, hr2, hr3⟩⟩
            refine append_int (P := Try.prog) (D := fun _ => none) (N := hn g .mk + 1) Go.Ai.ty_el40 Go.Ai.ty_zr3 Go.Ai.ty_cl40 (ow.keep (le_up1 (H2.le.refl _))) (by rw [hn_up]; omega) (by rw [upto_len]; have : Go.Ai.most = 1099511627776 := rfl; omega) ?_
            intro v' g6 ow6 nn6 le6 on6
            rw [← upto_succ] at ow6
            obtain ⟨b, rfl, hb1, hb2, hb3⟩ := ow6.blk (by intro e; have := congrArg List.length e; simp [upto_len] at this)
            rw [upto_len] at *
            repeat (first | rw [kz_o] | rw [kz_r0] | simp -dsimp -implicitDefEqProofs only [go_sem, Nat.reduceBEq, Nat.reduceAdd, Nat.reduceLeDiff, Nat.reduceMul, Int.reduceLE, Int.reduceLT, Int.reduceBEq, hks, e17, e18, w1])
            refine nx_keep (m - 1) (by omega) (by simp -dsimp -implicitDefEqProofs only [go_sem, Nat.reduceBEq, Nat.reduceAdd, Nat.reduceLeDiff, Nat.reduceMul, Int.reduceLE, Int.reduceLT, Int.reduceBEq, hks]) ⟨i + 1, b, by simp -dsimp -implicitDefEqProofs only [go_sem, Nat.reduceBEq, Nat.reduceAdd, Nat.reduceLeDiff, Nat.reduceMul, Int.reduceLE, Int.reduceLT, Int.reduceBEq, e17], by simp -dsimp -implicitDefEqProofs only [go_sem, Nat.reduceBEq, Nat.reduceAdd, Nat.reduceLeDiff, Nat.reduceMul, Int.reduceLE, Int.reduceLT, Int.reduceBEq, w1], by omega, by simp -dsimp -implicitDefEqProofs only [go_sem, Nat.reduceBEq, Nat.reduceAdd, Nat.reduceLeDiff, Nat.reduceMul, Int.reduceLE, Int.reduceLT, Int.reduceBEq], by omega, hb2, hb3, le6 g (by omega) (le_up1 hle), ?_⟩
            exact (on6 _ (by rw [hn_up]; omega) (by intro e; simp only [blockOf, Option.some.injEq] at e; omega)).trans hbox
          · repeat (first | rw [kz_o] | rw [kz_r0] | simp -dsimp -implicitDefEqProofs only [go_sem, Nat.reduceBEq, Nat.reduceAdd, Nat.reduceLeDiff, Nat.reduceMul, Int.reduceLE, Int.reduceLT, Int.reduceBEq, hks, e17, e18, e5])
            have : i = zs.length := by omega
            subst this
            exact out_keep (by simp -dsimp -implicitDefEqProofs only [go_sem, Nat.reduceBEq, Nat.reduceAdd, Nat.reduceLeDiff, Nat.reduceMul, Int.reduceLE, Int.reduceLT, Int.reduceBEq, hks]) ⟨r, by simp -dsimp -implicitDefEqProofs only [go_sem, Nat.reduceBEq, Nat.reduceAdd, Nat.reduceLeDiff, Nat.reduceMul, Int.reduceLE, Int.reduceLT, Int.reduceBEq, e5], hr1, hr2, hr3, hle, hbox⟩
        · rintro e h' hks ⟨r, e5, hr1, hr2, hr3, hle, hbox⟩
          simp -dsimp -implicitDefEqProofs only [go_sem, Nat.reduceBEq, Nat.reduceAdd, Nat.reduceLeDiff, Nat.reduceMul, Int.reduceLE, Int.reduceLT, Int.reduceBEq] at hks
          repeat (first | rw [kz_o] | rw [kz_r0] | simp -dsimp -implicitDefEqProofs only [go_sem, Nat.reduceBEq, Nat.reduceAdd, Nat.reduceLeDiff, Nat.reduceMul, Int.reduceLE, Int.reduceLT, Int.reduceBEq, hks, e5])
          have hc := sortStable_ok (W0 := W0) (l := upto zs.length) (zs := zs) (f := f) (r := r) (c := hn g .mk) (by omega) (by omega) hr3 hbox upto_len (fun i hi => lat_upto (by rw [upto_len] at hi; exact hi))
          rw [upto_len] at hc
          refine wz_intro hc ?_
          rintro v g7 ⟨l', hl1, hl2, hl3, hsm⟩
          obtain ⟨mn1, mn2, mn3⟩ := mn_nat (a := k) (b := (zs.length : Int)) (n := zs.length) (by omega) rfl
          repeat (first | rw [kz_o] | rw [kz_r0] | simp -dsimp -implicitDefEqProofs only [go_sem, Nat.reduceBEq, Nat.reduceAdd, Nat.reduceLeDiff, Nat.reduceMul, Int.reduceLE, Int.reduceLT, Int.reduceBEq, hks, e5, hl1, mn1, mn2, Nat.sub_zero, Nat.zero_mul])
          have ht : topI zs k = l'.take (Go.Ai.mnI k (zs.length : Int)).toNat := by
            rw [topI, if_pos ⟨hin, by omega⟩, mn3]
            exact topP_ok hl3 hl2 (Nat.min_le_right _ _)
          have hlen : l'.length = zs.length := hl2
          have hle7 : g.le g7 := ⟨by rw [hsm.1]; exact hle.1, fun b hb => (hsm.2 b (by omega)).trans (hle.2 b hb)⟩
          refine ⟨hle7, .inr ⟨r, _, l', rfl, by omega, by rw [hsm.1]; exact hr2, hl1, by rw [hlen, mn3]; exact Nat.min_le_right _ _, ht.symm⟩⟩
  · rintro x g' ⟨hle, h | ⟨r, m, l, rfl, h1, h2, h3, h4, h5⟩⟩
    · rw [h.1, h.2]
      exact .inl ⟨hle, .nil⟩
    · refine .inr ⟨r, m, _, h3, le_cut (k := ⟨1, l.map cI⟩) hle h1, ?_⟩
      rw [← h5]
      have hm : (l.take m).length = m := by rw [List.length_take]; omega
      refine ⟨by simp, .inr ⟨r, by rw [hm], h1, h2, ?_⟩⟩
      rw [hg_cut h3, if_pos rfl, List.map_take]
end Go.Bi
