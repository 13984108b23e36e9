/- The walk of the reference's ReadVar, and of both ReadShorts. -/
import Derived.Test.YtjofbadmkigkjaaEb
set_option linter.unusedSimpArgs false
set_option linter.unusedVariables false
set_option maxRecDepth 20000
namespace Go.Bi
open Go.Proofs
open Go.Ai (wrap_i64 wrap_u64 wrap_u8 Heap)
variable {W0 : World} {P : Program}
def strB (s : ByteArray) (hh l : Option Nat) : Option X := match hh, l with
  | some hh, some l => some (.raw (.string (s.extract l hh)))
  | _, _ => none
theorem strB_some {s : ByteArray} {hh l : Nat} : strB s (some hh) (some l) = some (.raw (.string (s.extract l hh))) := rfl
theorem slice_str {t : TypeId} {h : H2} {s : ByteArray} {lo hi : Option X} (hc : Go.Ai.cls? P t = some .str) :
    slicez P h t (.raw (.string s)) lo hi none .mk = strB s (boundX s.size hi s.size) (bndL (boundX s.size hi s.size) lo) := by
  simp only [slicez, sliceX, hc, Option.isSome_none, Bool.false_eq_true, if_false, strB, bndL]
  cases boundX s.size hi s.size with
  | none => rfl
  | some hh => dsimp only; cases boundX hh lo 0 <;> rfl
attribute [go_sem] strB_some slice_str
theorem lst_extract {s : ByteArray} {a b : Nat} : lst (s.extract a b) = ((lst s).drop a).take (b - a) := by
  simp only [lst, ByteArray.data_extract, Array.toList_extract, List.extract]
theorem toList_lst {s : ByteArray} : s.toList = lst s := ByteArray.toList_eq s
theorem lst_varT {n : Nat} : lst (varT n) = varN n := rfl
theorem eq_var {s : ByteArray} {n a b : Nat} : ((varT n).toList == (s.extract a b).toList) = decide (varN n = ((lst s).drop a).take (b - a)) := by
  rw [toList_lst, toList_lst, lst_varT, lst_extract, Bool.beq_eq_decide_eq]
set_option maxHeartbeats 1000000 in
theorem specReadVar_ok {s : ByteArray} {p : Int} {h : H2} (hs : s.size ≤ 4611686018427387904) : PW Try.prog W0 95 [.raw (.string s), .raw (.int .i64 p)] h (fun r => r = rdR (rdV s p)) := by
  refine PW.plain ?_
  refine start (P := Try.prog) [[0, 1], [0, 1], [], [0, 1], [0, 1, 7], [0, 1, 7, 8], [0, 1, 7, 8, 9], [0, 1, 7, 8, 9], [0, 1, 7, 8, 9], [0, 1, 7, 8, 9], [0, 1, 7, 8, 9], [0, 1, 7, 9], [], [7, 9], []] (by kernel_rfl) Try.func95 rfl (by decide) (by decide +kernel) (rs := [.tmp 4, .tmp 5, .tmp 6]) rfl rfl (Nat.le_of_ble_eq_true rfl) ?_
  intro wf
  repeat (first | rw [kz_o] | rw [kz_r0] | simp -dsimp -implicitDefEqProofs only [go_sem, Nat.reduceBEq, Nat.reduceAdd, Nat.reduceLeDiff, Nat.reduceMul, Int.reduceLE, Int.reduceLT, Int.reduceBEq])
  refine wz_intro l01In_ok ?_
  rintro _ h ⟨rfl, rfl⟩
  cases hi : inI p 0 s.size
  · repeat (first | rw [kz_o] | rw [kz_r0] | simp -dsimp -implicitDefEqProofs only [go_sem, Nat.reduceBEq, Nat.reduceAdd, Nat.reduceLeDiff, Nat.reduceMul, Int.reduceLE, Int.reduceLT, Int.reduceBEq])
    exact ⟨H2.le.refl _, plain3, by rw [rdV, hi]; rfl⟩
  have hi1 := inI_t hi
  obtain ⟨a, rfl⟩ := Int.eq_ofNat_of_zero_le hi1.1
  have ha : a ≤ s.size := by omega
  repeat (first | rw [kz_o] | rw [kz_r0] | simp -dsimp -implicitDefEqProofs only [go_sem, Nat.reduceBEq, Nat.reduceAdd, Nat.reduceLeDiff, Nat.reduceMul, Int.reduceLE, Int.reduceLT, Int.reduceBEq])
  refine lz_keep [0, 1] (fun m e h' => h' = h ∧ ∃ k n : Nat, look e 9 .mk = .raw (.int .i64 ((a + k : Nat) : Int)) ∧ look e 8 .mk = .raw (.int .i64 ((128 ^ k : Nat) : Int)) ∧ look e 7 .mk = .raw (.int .i64 n) ∧ m + k = 5 ∧ n < 128 ^ k ∧ rv 5 ((lst s).drop a) = cmb k n (rv (5 - k) ((lst s).drop (a + k)))) 5 ?_ ?_
  · refine ⟨rfl, 0, 0, by simp -dsimp -implicitDefEqProofs only [go_sem, Nat.reduceBEq, Nat.reduceAdd, Nat.reduceLeDiff, Nat.reduceMul, Int.reduceLE, Int.reduceLT, Int.reduceBEq], by simp -dsimp -implicitDefEqProofs only [go_sem, Nat.reduceBEq, Nat.reduceAdd, Nat.reduceLeDiff, Nat.reduceMul, Int.reduceLE, Int.reduceLT, Int.reduceBEq]; rfl, by simp -dsimp -implicitDefEqProofs only [go_sem, Nat.reduceBEq, Nat.reduceAdd, Nat.reduceLeDiff, Nat.reduceMul, Int.reduceLE, Int.reduceLT, Int.reduceBEq], rfl, by omega, ?_⟩
    cases rv 5 ((lst s).drop a) with
    | none => simp [cmb]
    | some q => simp [cmb]
  · rintro m e h hks ⟨rfl, k, n, e9, e8, e7, hk, hn, hrv⟩
    simp -dsimp -implicitDefEqProofs only [go_sem, Nat.reduceBEq, Nat.reduceAdd, Nat.reduceLeDiff, Nat.reduceMul, Int.reduceLE, Int.reduceLT, Int.reduceBEq] at hks
    repeat (first | rw [kz_o] | rw [kz_r0] | simp -dsimp -implicitDefEqProofs only [go_sem, Nat.reduceBEq, Nat.reduceAdd, Nat.reduceLeDiff, Nat.reduceMul, Int.reduceLE, Int.reduceLT, Int.reduceBEq, hks, e9, e8, e7])
    have hpw := pow_le (show k ≤ 5 by omega)
    have hw : IntKind.i64.wrap ((a : Int) + 5) = ((a + 5 : Nat) : Int) := by rw [wrap_i64] <;> omega
    refine gz_dec (fun h3 => ?_) (fun h3 => ?_)
    · repeat (first | rw [kz_o] | rw [kz_r0] | simp -dsimp -implicitDefEqProofs only [go_sem, Nat.reduceBEq, Nat.reduceAdd, Nat.reduceLeDiff, Nat.reduceMul, Int.reduceLE, Int.reduceLT, Int.reduceBEq, hks, e9, e8, e7, h3, hw])
      refine gz_dec (fun h2 => ?_) (fun h2 => ?_)
      · have h3' : a + k < s.size := by omega
        obtain ⟨f, hf⟩ : ∃ f, 5 - k = f + 1 := ⟨4 - k, by omega⟩
        rw [hf, lst_drop h3'] at hrv
        generalize hb : s[a + k] = b at hrv
        have hb2 : b.toNat < 256 := b.toNat_lt
        have t128 : ((128 : Int) == 0) = false := rfl
        have w1 : IntKind.i64.wrap (b.toNat : Int) = b.toNat := by rw [wrap_i64] <;> omega
        have w2 : (b.toNat : Int).tmod 128 = ((b.toNat % 128 : Nat) : Int) := by rw [Int.tmod_eq_emod_of_nonneg (by omega)]; omega
        have hn2 := pow_step (x := b.toNat % 128) hn (by omega)
        have hpw2 := pow_le (show k + 1 ≤ 5 by omega)
        have w4 : IntKind.i64.wrap (((b.toNat % 128 : Nat) : Int) * ((128 ^ k : Nat) : Int)) = ((b.toNat % 128 * 128 ^ k : Nat) : Int) := by
          rw [← Int.natCast_mul, wrap_i64] <;> omega
        have w5 : IntKind.i64.wrap ((n : Int) + ((b.toNat % 128 * 128 ^ k : Nat) : Int)) = ((n + b.toNat % 128 * 128 ^ k : Nat) : Int) := by rw [wrap_i64] <;> omega
        have w7 : IntKind.i64.wrap (((128 ^ k : Nat) : Int) * 128) = ((128 ^ (k + 1) : Nat) : Int) := by
          rw [Nat.pow_succ, wrap_i64] <;> omega
        repeat (first | rw [kz_o] | rw [kz_r0] | simp -dsimp -implicitDefEqProofs only [go_sem, Nat.reduceBEq, Nat.reduceAdd, Nat.reduceLeDiff, Nat.reduceMul, Int.reduceLE, Int.reduceLT, Int.reduceBEq, hks, e9, e8, e7, h3', hb, w1, w2, w4, w5, w7, t128])
        refine gz_dec (fun h4 => ?_) (fun h4 => ?_)
        rotate_left
        · rw [rv_big (by omega)] at hrv
          have w6 : IntKind.i64.wrap (((a + k : Nat) : Int) + 1) = ((a + (k + 1) : Nat) : Int) := by rw [wrap_i64] <;> omega
          repeat (first | rw [kz_o] | rw [kz_r0] | simp -dsimp -implicitDefEqProofs only [go_sem, Nat.reduceBEq, Nat.reduceAdd, Nat.reduceLeDiff, Nat.reduceMul, Int.reduceLE, Int.reduceLT, Int.reduceBEq, hks, e9, w6])
          exact nx_keep (m - 1) (by omega) (by simp -dsimp -implicitDefEqProofs only [go_sem, Nat.reduceBEq, Nat.reduceAdd, Nat.reduceLeDiff, Nat.reduceMul, Int.reduceLE, Int.reduceLT, Int.reduceBEq, hks]) ⟨rfl, k + 1, _, by simp -dsimp -implicitDefEqProofs only [go_sem, Nat.reduceBEq, Nat.reduceAdd, Nat.reduceLeDiff, Nat.reduceMul, Int.reduceLE, Int.reduceLT, Int.reduceBEq], by simp -dsimp -implicitDefEqProofs only [go_sem, Nat.reduceBEq, Nat.reduceAdd, Nat.reduceLeDiff, Nat.reduceMul, Int.reduceLE, Int.reduceLT, Int.reduceBEq], by simp -dsimp -implicitDefEqProofs only [go_sem, Nat.reduceBEq, Nat.reduceAdd, Nat.reduceLeDiff, Nat.reduceMul, Int.reduceLE, Int.reduceLT, Int.reduceBEq], by omega, hn2, by rw [hrv, show 5 - (k + 1) = f by omega]; rfl⟩
        · rw [rv_small (by omega)] at hrv
          have hR := rdV_some ha hrv
          generalize n + b.toNat % 128 * 128 ^ k = N at *
          have w6 : IntKind.i64.wrap (((a + k : Nat) : Int) + 1) = ((a + (k + 1) : Nat) : Int) := by rw [wrap_i64] <;> omega
          repeat (first | rw [kz_o] | rw [kz_r0] | simp -dsimp -implicitDefEqProofs only [go_sem, Nat.reduceBEq, Nat.reduceAdd, Nat.reduceLeDiff, Nat.reduceMul, Int.reduceLE, Int.reduceLT, Int.reduceBEq, hks, e9])
          refine dq_intro [(0, []), (1, []), (2, []), (3, []), (5, []), (6, []), (7, []), (8, []), (9, []), (4, [9]), (10, []), (11, [])] (by kernel_rfl) ?_
          repeat (first | rw [kz_o] | rw [kz_r0] | simp -dsimp -implicitDefEqProofs only [go_sem, Nat.reduceBEq, Nat.reduceAdd, Nat.reduceLeDiff, Nat.reduceMul, Int.reduceLE, Int.reduceLT, Int.reduceBEq, hks, e9])
          refine gz_ndec (fun h5 => ?_) (fun h5 => ?_)
          · have b1 : ((a + (k + 1) : Nat) : Int) ≤ (s.size : Int) := by omega
            have b2 : (a : Int) ≤ ((a + (k + 1) : Nat) : Int) := by omega
            repeat (first | rw [kz_o] | rw [kz_r0] | simp -dsimp -implicitDefEqProofs only [go_sem, Nat.reduceBEq, Nat.reduceAdd, Nat.reduceLeDiff, Nat.reduceMul, Int.reduceLE, Int.reduceLT, Int.reduceBEq, hks, e9, h5, w6, b1, b2])
            refine pw_intro (l01Var_ok (by omega)) ?_
            rintro _ n3 hn3 rfl
            rw [kz_r]
            refine ⟨by simp -dsimp -implicitDefEqProofs only [go_sem, Nat.reduceBEq, Nat.reduceAdd, Nat.reduceLeDiff, Nat.reduceMul, Int.reduceLE, Int.reduceLT, Int.reduceBEq, hks, e9, h5, w6, b1, b2], ?_⟩
            repeat (first | rw [kz_o] | rw [kz_r0] | simp -dsimp -implicitDefEqProofs only [go_sem, Nat.reduceBEq, Nat.reduceAdd, Nat.reduceLeDiff, Nat.reduceMul, Int.reduceLE, Int.reduceLT, Int.reduceBEq, hks, e9, h5, w6, b1, b2])
            have he := eq_var (s := s) (n := N) (a := a) (b := a + (k + 1))
            rw [show a + (k + 1) - a = k + 1 by omega] at he
            have hR2 : rdR (rdV s a) = if varN N = ((lst s).drop a).take (k + 1) then .tp [.raw (.int .i64 N), .raw (.int .i64 ((a + (k + 1) : Nat) : Int)), .raw (.bool true)] else .tp [.raw (.int .i64 0), .raw (.int .i64 0), .raw (.bool false)] := by
              rw [hR]
              by_cases hq : varN N = ((lst s).drop a).take (k + 1)
              · rw [if_pos ⟨by omega, hq⟩, if_pos hq]; rfl
              · rw [if_neg fun hh => hq hh.2, if_neg hq]; rfl
            refine gz_intro (fun h8 => ?_) (fun h8 => ?_)
            · repeat (first | rw [kz_o] | rw [kz_r0] | simp -dsimp -implicitDefEqProofs only [go_sem, Nat.reduceBEq, Nat.reduceAdd, Nat.reduceLeDiff, Nat.reduceMul, Int.reduceLE, Int.reduceLT, Int.reduceBEq, hks, e9])
              refine ⟨le_up (H2.le.refl _) hn3, plain3, ?_⟩
              rw [he] at h8
              rw [hR2, if_neg (by simpa using h8)]
            · repeat (first | rw [kz_o] | rw [kz_r0] | simp -dsimp -implicitDefEqProofs only [go_sem, Nat.reduceBEq, Nat.reduceAdd, Nat.reduceLeDiff, Nat.reduceMul, Int.reduceLE, Int.reduceLT, Int.reduceBEq, hks, e9, w6])
              refine ⟨le_up (H2.le.refl _) hn3, plain3, ?_⟩
              rw [he] at h8
              rw [hR2, if_pos (by simpa using h8)]
          · repeat (first | rw [kz_o] | rw [kz_r0] | simp -dsimp -implicitDefEqProofs only [go_sem, Nat.reduceBEq, Nat.reduceAdd, Nat.reduceLeDiff, Nat.reduceMul, Int.reduceLE, Int.reduceLT, Int.reduceBEq, hks, e9, h5])
            refine ⟨H2.le.refl _, plain3, ?_⟩
            rw [hR, if_neg fun hh => by omega]; rfl
      · repeat (first | rw [kz_o] | rw [kz_r0] | simp -dsimp -implicitDefEqProofs only [go_sem, Nat.reduceBEq, Nat.reduceAdd, Nat.reduceLeDiff, Nat.reduceMul, Int.reduceLE, Int.reduceLT, Int.reduceBEq, hks, e8, h2, h3])
        refine ⟨H2.le.refl _, plain3, ?_⟩
        rw [show 5 - k = 0 by omega] at hrv
        rw [rdV_none (by rw [hrv]; rfl)]; rfl
    · repeat (first | rw [kz_o] | rw [kz_r0] | simp -dsimp -implicitDefEqProofs only [go_sem, Nat.reduceBEq, Nat.reduceAdd, Nat.reduceLeDiff, Nat.reduceMul, Int.reduceLE, Int.reduceLT, Int.reduceBEq, hks, e8, h3])
      refine ⟨H2.le.refl _, plain3, ?_⟩
      rw [List.drop_of_length_le (show (lst s).length ≤ a + k from by rw [lst_len]; omega)] at hrv
      have : rv 5 ((lst s).drop a) = none := by
        rw [hrv]
        cases 5 - k <;> rfl
      rw [rdV_none this]; rfl
end Go.Bi
