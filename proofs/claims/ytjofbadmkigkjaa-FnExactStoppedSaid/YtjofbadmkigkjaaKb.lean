/- The bytes of a token, on both sides; which tokens are right. -/
import Derived.Test.YtjofbadmkigkjaaIc
import Derived.Test.YtjofbadmkigkjaaDa
set_option linter.unusedSimpArgs false
set_option linter.unusedVariables false
set_option maxRecDepth 20000
namespace Go.Bi
open Go.Proofs
open Go.Ai (wrap_i64 wrap_u64 wrap_u8 Heap)
variable {W0 : World} {P : Program}
set_option maxHeartbeats 2000000
/-- The bytes of a token, so deep. -/
def pc (l : List LMerge) : Nat → Int → ByteArray
  | 0, t => byteT t
  | n + 1, t => if t < 256 then byteT t else pc l n (mAt l (t - 256).toNat).a ++ pc l n (mAt l (t - 256).toNat).b
def rightM (l : List LMerge) : Prop := ∀ i, i < l.length → tokAt l i = true ∧ nAt l i ≤ 64
theorem right_of {l : List LMerge} (h : mergesB l = true) : l.length ≤ 16 ∧ rightM l := by
  unfold mergesB at h
  simp only [Bool.and_eq_true, decide_eq_true_eq, List.all_eq_true, List.mem_range] at h
  refine ⟨h.1, fun i hi => ?_⟩
  have := (h.2 i hi).1
  simp only [stepOk, Bool.and_eq_true, decide_eq_true_eq] at this
  exact this
theorem tok_rng {l : List LMerge} (h : rightM l) {i : Nat} (hi : i < l.length) : (0 ≤ (mAt l i).a ∧ (mAt l i).a ≤ 255 + (i : Int)) ∧ (0 ≤ (mAt l i).b ∧ (mAt l i).b ≤ 255 + (i : Int)) := by
  have := (h i hi).1
  simp only [tokAt, Bool.and_eq_true] at this
  exact ⟨inI_tt this.1, inI_tt this.2⟩
theorem outs_at {l : List LMerge} {k : Nat} : ∀ {n : Nat}, k < n → latM (outs l n) k = nAt l k
  | 0, h => by omega
  | n + 1, h => by
    have e : outs l (n + 1) = outs l n ++ [nAt l n] := rfl
    rw [e]
    unfold latM
    by_cases hk : k < n
    · rw [List.getD_eq_getElem?_getD, List.getElem?_append_left (by rw [outs_len]; exact hk), ← List.getD_eq_getElem?_getD]
      exact outs_at hk
    · obtain rfl : k = n := by omega
      rw [List.getD_eq_getElem?_getD, List.getElem?_append_right (by rw [outs_len]; exact Nat.le_refl _), outs_len, Nat.sub_self]; rfl
theorem one_at {l : List LMerge} {n i : Nat} {t : Int} (h : t ≤ 255 + (i : Int)) (hi : i ≤ n) : szOne (outs l n) t = szOne (outs l i) t := by
  unfold szOne
  split
  · rfl
  · rw [outs_at (by omega), outs_at (by omega)]
theorem pc_size {l : List LMerge} (h : rightM l) : ∀ {n : Nat} {t : Int}, n ≤ l.length → 0 ≤ t → t < 256 + (n : Int) → ((pc l n t).size : Int) = szOne (outs l n) t
  | 0, t, hn, h0, h1 => by
    rw [szOne, if_pos (by omega)]; rfl
  | n + 1, t, hn, h0, h1 => by
    by_cases ht : t < 256
    · rw [pc, if_pos ht, szOne, if_pos ht]; rfl
    · obtain ⟨i, hi⟩ : ∃ i : Nat, t = 256 + (i : Int) := ⟨(t - 256).toNat, by omega⟩
      have hi2 : (t - 256).toNat = i := by omega
      obtain ⟨⟨a0, a1⟩, b0, b1⟩ := tok_rng h (show i < l.length by omega)
      rw [pc, if_neg ht, hi2, ByteArray.size_append, szOne, if_neg ht, hi2, outs_at (by omega)]
      have e1 := pc_size h (n := n) (by omega) a0 (by omega)
      have e2 := pc_size h (n := n) (by omega) b0 (by omega)
      rw [one_at a1 (by omega)] at e1
      rw [one_at b1 (by omega)] at e2
      unfold nAt
      omega
theorem pc_64 {l : List LMerge} (h : rightM l) {n : Nat} {t : Int} (hn : n ≤ l.length) (h0 : 0 ≤ t) (h1 : t < 256 + (n : Int)) : (pc l n t).size ≤ 64 := by
  have := pc_size h hn h0 h1
  unfold szOne at this
  split at this
  · omega
  · rw [outs_at (by omega)] at this
    have := (h (t - 256).toNat (by omega)).2
    omega
theorem implPiece_ok {l : List LMerge} (hr : rightM l) (hl : l.length ≤ 16) : ∀ {n : Nat} {t : Int} {f : Adr} {g : H2}, n ≤ l.length → 0 ≤ t → t < 256 + (n : Int) → PW Try.prog W0 102 [.sl f 2 (rMergeS l), .raw (.int .i64 t)] g (fun y => y = .raw (.string (pc l n t)))
  | n, t, f, g, hn, h0, h1 => by
    refine PW.scalar ?_
    refine start (P := Try.prog) [[0, 1], [0, 1], [1], [0, 1], [0, 5]] (by kernel_rfl) Try.func102 rfl (by decide) (by decide +kernel) (rs := [.tmp 4]) rfl rfl (Nat.le_of_ble_eq_true rfl) ?_
    intro wf
    repeat (first | rw [kz_o] | rw [kz_r0] | simp -dsimp -implicitDefEqProofs only [go_sem, Nat.reduceBEq, Nat.reduceAdd, Nat.reduceLeDiff, Nat.reduceMul, Int.reduceLE, Int.reduceLT, Int.reduceBEq])
    refine gz_dec (fun h2 => ?_) (fun h2 => ?_)
    · repeat (first | rw [kz_o] | rw [kz_r0] | simp -dsimp -implicitDefEqProofs only [go_sem, Nat.reduceBEq, Nat.reduceAdd, Nat.reduceLeDiff, Nat.reduceMul, Int.reduceLE, Int.reduceLT, Int.reduceBEq, h2])
      have e : pc l n t = byteT t := by cases n with
        | zero => rfl
        | succ n => rw [pc, if_pos h2]
      exact ⟨le_up (H2.le.refl _) (Nat.le_succ _), ⟨_, rfl⟩, by rw [e, wrap_u8]; rfl⟩
    · obtain ⟨i, hi⟩ : ∃ i : Nat, t = 256 + (i : Int) := ⟨(t - 256).toNat, by omega⟩
      have hi2 : (t - 256).toNat = i := by omega
      cases n with
      | zero => omega
      | succ n =>
      obtain ⟨⟨a0, a1⟩, b0, b1⟩ := tok_rng hr (show i < l.length by omega)
      unfold mAt at a0 a1 b0 b1
      have w1 : IntKind.i64.wrap (t - 256) = (i : Int) := by rw [wrap_i64] <;> omega
      have h3 : i < l.length := by omega
      repeat (first | rw [kz_o] | rw [kz_r0] | simp -dsimp -implicitDefEqProofs only [go_sem, Nat.reduceBEq, Nat.reduceAdd, Nat.reduceLeDiff, Nat.reduceMul, Int.reduceLE, Int.reduceLT, Int.reduceBEq, h2, w1, h3, hoo])
      refine dq_intro [(0, []), (1, []), (2, []), (4, []), (5, []), (6, []), (3, [6]), (7, []), (8, []), (9, [])] (by kernel_rfl) ?_
      repeat (first | rw [kz_o] | rw [kz_r0] | simp -dsimp -implicitDefEqProofs only [go_sem, Nat.reduceBEq, Nat.reduceAdd, Nat.reduceLeDiff, Nat.reduceMul, Int.reduceLE, Int.reduceLT, Int.reduceBEq, hoo])
      refine pw_intro (implPiece_ok hr hl (n := n) (by omega) a0 (by omega)) ?_
      rintro _ n1 hn1 rfl
      simp only [hn_push] at hn1
      rw [kz_r]
      refine ⟨by simp -dsimp -implicitDefEqProofs only [go_sem, Nat.reduceBEq, Nat.reduceAdd, Nat.reduceLeDiff, Nat.reduceMul, Int.reduceLE, Int.reduceLT, Int.reduceBEq, hoo], ?_⟩
      repeat (first | rw [kz_o] | rw [kz_r0] | simp -dsimp -implicitDefEqProofs only [go_sem, Nat.reduceBEq, Nat.reduceAdd, Nat.reduceLeDiff, Nat.reduceMul, Int.reduceLE, Int.reduceLT, Int.reduceBEq, hoo])
      refine pw_intro (implPiece_ok hr hl (n := n) (by omega) b0 (by omega)) ?_
      rintro _ n2 hn2 rfl
      simp only [hn_up] at hn2
      have s1 := pc_64 hr (n := n) (by omega) a0 (by omega)
      have s2 := pc_64 hr (n := n) (by omega) b0 (by omega)
      have a2 : (((pc l n (l.getD i default).a).size + (pc l n (l.getD i default).b).size : Nat) : Int) ≤ 9223372036854775807 := by omega
      rw [kz_r]
      refine ⟨by simp -dsimp -implicitDefEqProofs only [go_sem, Nat.reduceBEq, Nat.reduceAdd, Nat.reduceLeDiff, Nat.reduceMul, Int.reduceLE, Int.reduceLT, Int.reduceBEq, hoo], ?_⟩
      repeat (first | rw [kz_o] | rw [kz_r0] | simp -dsimp -implicitDefEqProofs only [go_sem, Nat.reduceBEq, Nat.reduceAdd, Nat.reduceLeDiff, Nat.reduceMul, Int.reduceLE, Int.reduceLT, Int.reduceBEq, a2, hoo])
      exact ⟨le_up (le_up (le_push (H2.le.refl _)) (by rw [hn_push]; omega)) (by rw [hn_up]; omega), ⟨_, rfl⟩, by rw [pc, if_neg h2, hi2]; rfl⟩
theorem specPiece_ok {l : List LMerge} (hr : rightM l) (hl : l.length ≤ 16) : ∀ {n : Nat} {t : Int} {f : Adr} {g : H2}, n ≤ l.length → 0 ≤ t → t < 256 + (n : Int) → PW Try.prog W0 98 [.sl f 2 (rMergeS l), .raw (.int .i64 t)] g (fun y => y = .raw (.string (pc l n t)))
  | n, t, f, g, hn, h0, h1 => by
    refine PW.scalar ?_
    refine start (P := Try.prog) [[0, 1], [0, 1], [1], [0, 1]] (by kernel_rfl) Try.func98 rfl (by decide) (by decide +kernel) (rs := [.tmp 4]) rfl rfl (Nat.le_of_ble_eq_true rfl) ?_
    intro wf
    repeat (first | rw [kz_o] | rw [kz_r0] | simp -dsimp -implicitDefEqProofs only [go_sem, Nat.reduceBEq, Nat.reduceAdd, Nat.reduceLeDiff, Nat.reduceMul, Int.reduceLE, Int.reduceLT, Int.reduceBEq])
    refine gz_dec (fun h2 => ?_) (fun h2 => ?_)
    · repeat (first | rw [kz_o] | rw [kz_r0] | simp -dsimp -implicitDefEqProofs only [go_sem, Nat.reduceBEq, Nat.reduceAdd, Nat.reduceLeDiff, Nat.reduceMul, Int.reduceLE, Int.reduceLT, Int.reduceBEq, h2])
      have e : pc l n t = byteT t := by cases n with
        | zero => rfl
        | succ n => rw [pc, if_pos h2]
      exact ⟨le_up (H2.le.refl _) (Nat.le_succ _), ⟨_, rfl⟩, by rw [e, wrap_u8]; rfl⟩
    · obtain ⟨i, hi⟩ : ∃ i : Nat, t = 256 + (i : Int) := ⟨(t - 256).toNat, by omega⟩
      have hi2 : (t - 256).toNat = i := by omega
      cases n with
      | zero => omega
      | succ n =>
      obtain ⟨⟨a0, a1⟩, b0, b1⟩ := tok_rng hr (show i < l.length by omega)
      unfold mAt at a0 a1 b0 b1
      have w1 : IntKind.i64.wrap (t - 256) = (i : Int) := by rw [wrap_i64] <;> omega
      have h3 : i < l.length := by omega
      repeat (first | rw [kz_o] | rw [kz_r0] | simp -dsimp -implicitDefEqProofs only [go_sem, Nat.reduceBEq, Nat.reduceAdd, Nat.reduceLeDiff, Nat.reduceMul, Int.reduceLE, Int.reduceLT, Int.reduceBEq, h2, w1, h3, hoo])
      refine dq_intro [(0, []), (1, []), (2, []), (3, []), (4, []), (5, []), (6, []), (8, []), (9, []), (10, []), (11, []), (12, []), (13, []), (14, []), (7, [14]), (15, []), (16, []), (17, [])] (by kernel_rfl) ?_
      repeat (first | rw [kz_o] | rw [kz_r0] | simp -dsimp -implicitDefEqProofs only [go_sem, Nat.reduceBEq, Nat.reduceAdd, Nat.reduceLeDiff, Nat.reduceMul, Int.reduceLE, Int.reduceLT, Int.reduceBEq, w1, h3, hoo])
      refine pw_intro (specPiece_ok hr hl (n := n) (by omega) a0 (by omega)) ?_
      rintro _ n1 hn1 rfl
      repeat (first | rw [kz_o] | rw [kz_r0] | simp -dsimp -implicitDefEqProofs only [go_sem, Nat.reduceBEq, Nat.reduceAdd, Nat.reduceLeDiff, Nat.reduceMul, Int.reduceLE, Int.reduceLT, Int.reduceBEq, w1, h3, hoo])
      refine pw_intro (specPiece_ok hr hl (n := n) (by omega) b0 (by omega)) ?_
      rintro _ n2 hn2 rfl
      simp only [hn_up] at hn2
      have s1 := pc_64 hr (n := n) (by omega) a0 (by omega)
      have s2 := pc_64 hr (n := n) (by omega) b0 (by omega)
      have a2 : (((pc l n (l.getD i default).a).size + (pc l n (l.getD i default).b).size : Nat) : Int) ≤ 9223372036854775807 := by omega
      repeat (first | rw [kz_o] | rw [kz_r0] | simp -dsimp -implicitDefEqProofs only [go_sem, Nat.reduceBEq, Nat.reduceAdd, Nat.reduceLeDiff, Nat.reduceMul, Int.reduceLE, Int.reduceLT, Int.reduceBEq, a2, hoo])
      exact ⟨le_up (le_up (H2.le.refl _) hn1) (by rw [hn_up]; omega), ⟨_, rfl⟩, by rw [pc, if_neg h2, hi2]; rfl⟩
end Go.Bi
