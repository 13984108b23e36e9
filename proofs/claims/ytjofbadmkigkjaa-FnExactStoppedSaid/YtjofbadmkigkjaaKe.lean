/- Stopped on both sides. -/
import Derived.Test.YtjofbadmkigkjaaKd
import Derived.Test.YtjofbadmkigkjaaKa
import Derived.Test.YtjofbadmkigkjaaHc
set_option linter.unusedSimpArgs false
set_option linter.unusedVariables false
set_option maxRecDepth 20000
namespace Go.Bi
open Go.Proofs
open Go.Ai (wrap_i64 wrap_u64 wrap_u8 Heap)
variable {W0 : World} {P : Program}
set_option maxHeartbeats 4000000
def strK (s : ByteArray) (hh l : Option Nat) : Option X := match hh, l with
  | some hh, some l => some (.raw (.string (s.extract l hh)))
  | _, _ => none
theorem strK_some {s : ByteArray} {hh l : Nat} : strK s (some hh) (some l) = some (.raw (.string (s.extract l hh))) := rfl
theorem slice_strK {t : TypeId} {h : H2} {s : ByteArray} {lo hi : Option X} (hc : Go.Ai.cls? P t = some .str) :
    slicez P h t (.raw (.string s)) lo hi none .mk = strK s (boundX s.size hi s.size) (bndL (boundX s.size hi s.size) lo) := by
  simp only [slicez, sliceX, hc, Option.isSome_none, Bool.false_eq_true, if_false, strK, bndL]
  cases boundX s.size hi s.size with
  | none => rfl
  | some hh => dsimp only; cases boundX hh lo 0 <;> rfl
attribute [go_sem] strK_some slice_strK
theorem find_ok {f : Adr} {t : ByteArray} {ss : List ByteArray} {g : H2} (ht : t.size ≤ 1048576) (hs : ss.length ≤ 1048576) (hz : ∀ s ∈ ss, s.size ≤ 1048576) : PW Try.prog W0 57 [.raw (.string t), .sl f 1 (strs ss)] g (fun y => y = .raw (.int .i64 (firstP t ss))) := by
  refine PW.scalar ((?_ : WC2 _ _ _ _ _ fun v g' => g' = g ∧ ∃ r, v = .raw (.int .i64 r) ∧ FindP t ss r).mono fun v g' ⟨h1, r, h2, h3⟩ => ⟨by rw [h1]; exact H2.le.refl _, ⟨_, h2⟩, by rw [h2, h3.one find_first]⟩)
  refine start (P := Try.prog) [[0, 1], [0, 1], [0, 1, 5], [0, 1, 5], [0, 1, 5], [0, 1, 5, 6], [0, 1, 5, 6], [0, 1, 5, 6], [0, 1, 5, 6, 7], [5], []] (by kernel_rfl) Try.func57 rfl (by decide) (by decide +kernel) (rs := [.tmp 4]) rfl rfl (Nat.le_of_ble_eq_true rfl) ?_
  intro wf
  repeat (first | rw [kz_o] | rw [kz_r0] | simp -dsimp -implicitDefEqProofs only [go_sem, Nat.reduceBEq, Nat.reduceAdd, Nat.reduceLeDiff, Nat.reduceMul, Int.reduceLE, Int.reduceLT, Int.reduceBEq])
  refine lz_keep [0, 1] (fun m e h' => ∃ (i : Nat), h' = g ∧ look e 5 .mk = .raw (.int .i64 (i : Nat)) ∧ m + i = t.size ∧ ∀ j, j < i → ∀ s ∈ ss, 0 < s.size → occ t s j = false) t.size ?_ ?_
  · exact ⟨0, rfl, by simp -dsimp -implicitDefEqProofs only [go_sem, Nat.reduceBEq, Nat.reduceAdd, Nat.reduceLeDiff, Nat.reduceMul, Int.reduceLE, Int.reduceLT, Int.reduceBEq], by omega, fun j hj => by omega⟩
  · rintro m e h' hks ⟨i, rfl, e5, hm, hpre⟩
    simp -dsimp -implicitDefEqProofs only [go_sem, Nat.reduceBEq, Nat.reduceAdd, Nat.reduceLeDiff, Nat.reduceMul, Int.reduceLE, Int.reduceLT, Int.reduceBEq] at hks
    by_cases h1 : (i : Int) < (t.size : Int)
    · have w1 : IntKind.i64.wrap ((i : Int) + 1) = ((i + 1 : Nat) : Int) := by rw [wrap_i64] <;> omega
      repeat (first | rw [kz_o] | rw [kz_r0] | simp -dsimp -implicitDefEqProofs only [go_sem, Nat.reduceBEq, Nat.reduceAdd, Nat.reduceLeDiff, Nat.reduceMul, Int.reduceLE, Int.reduceLT, Int.reduceBEq, hks, e5, h1])
      refine lz_keep [0, 1, 5] (fun m2 e2 h2' => ∃ (k : Nat), h2' = h' ∧ look e2 6 .mk = .raw (.int .i64 (k : Nat)) ∧ m2 + k = ss.length ∧ ∀ q, q < k → 0 < (ss.getD q default).size → occ t (ss.getD q default) i = false) ss.length ?_ ?_
      · exact ⟨0, rfl, by simp -dsimp -implicitDefEqProofs only [go_sem, Nat.reduceBEq, Nat.reduceAdd, Nat.reduceLeDiff, Nat.reduceMul, Int.reduceLE, Int.reduceLT, Int.reduceBEq], by omega, fun j hj => by omega⟩
      · rintro m2 e2 _ hks2 ⟨k, rfl, e6, hm2, hpre2⟩
        simp -dsimp -implicitDefEqProofs only [go_sem, Nat.reduceBEq, Nat.reduceAdd, Nat.reduceLeDiff, Nat.reduceMul, Int.reduceLE, Int.reduceLT, Int.reduceBEq, hks] at hks2
        by_cases h2 : (k : Int) < (ss.length : Int)
        · have h3 : k < ss.length := by omega
          have w2 : IntKind.i64.wrap ((k : Int) + 1) = ((k + 1 : Nat) : Int) := by rw [wrap_i64] <;> omega
          have hmem : ss.getD k default ∈ ss := by rw [List.getD_eq_getElem?_getD, List.getElem?_eq_getElem h3]; exact List.getElem_mem h3
          have hkz := hz _ hmem
          repeat (first | rw [kz_o] | rw [kz_r0] | simp -dsimp -implicitDefEqProofs only [go_sem, Nat.reduceBEq, Nat.reduceAdd, Nat.reduceLeDiff, Nat.reduceMul, Int.reduceLE, Int.reduceLT, Int.reduceBEq, hks2, e6, h2, h3])
          refine dq_intro [(0, []), (1, []), (2, []), (3, []), (4, []), (5, []), (6, []), (7, []), (8, []), (9, []), (10, []), (11, []), (12, []), (13, []), (14, []), (15, []), (16, []), (17, []), (18, []), (19, []), (20, []), (21, []), (22, [])] (by kernel_rfl) ?_
          have w3 : IntKind.i64.wrap ((i : Int) + ((ss.getD k default).size : Int)) = ((i + (ss.getD k default).size : Nat) : Int) := by rw [wrap_i64] <;> omega
          have next : (0 < (ss.getD k default).size → occ t (ss.getD k default) i = false) → ∀ q, q < k + 1 → 0 < (ss.getD q default).size → occ t (ss.getD q default) i = false := fun hn q hq h0 => by
            by_cases hqk : q = k
            · subst hqk; exact hn h0
            · exact hpre2 q (by omega) h0
          by_cases h4 : ((ss.getD k default).size : Int) > 0
          · by_cases h5 : ((i + (ss.getD k default).size : Nat) : Int) ≤ (t.size : Int)
            · have b2 : (i : Int) ≤ ((i + (ss.getD k default).size : Nat) : Int) := by omega
              have ho := occ_eq (t := t) (s := ss.getD k default) (i := i) (by omega)
              repeat (first | rw [kz_o] | rw [kz_r0] | simp -dsimp -implicitDefEqProofs only [go_sem, Nat.reduceBEq, Nat.reduceAdd, Nat.reduceLeDiff, Nat.reduceMul, Int.reduceLE, Int.reduceLT, Int.reduceBEq, hks2, e6, e5, h2, h3, h4, h5, w3, b2, ← ho])
              cases hoc : occ t (ss.getD k default) i
              · repeat (first | rw [kz_o] | rw [kz_r0] | simp -dsimp -implicitDefEqProofs only [go_sem, Nat.reduceBEq, Nat.reduceAdd, Nat.reduceLeDiff, Nat.reduceMul, Int.reduceLE, Int.reduceLT, Int.reduceBEq, hks2, e6, e5, h2, h3, h4, h5, w2, hoc])
                exact nx_keep (m2 - 1) (by omega) (by simp -dsimp -implicitDefEqProofs only [go_sem, Nat.reduceBEq, Nat.reduceAdd, Nat.reduceLeDiff, Nat.reduceMul, Int.reduceLE, Int.reduceLT, Int.reduceBEq, hks, hks2]) ⟨k + 1, rfl, by simp -dsimp -implicitDefEqProofs only [go_sem, Nat.reduceBEq, Nat.reduceAdd, Nat.reduceLeDiff, Nat.reduceMul, Int.reduceLE, Int.reduceLT, Int.reduceBEq, w2], by omega, next fun _ => hoc⟩
              · repeat (first | rw [kz_o] | rw [kz_r0] | simp -dsimp -implicitDefEqProofs only [go_sem, Nat.reduceBEq, Nat.reduceAdd, Nat.reduceLeDiff, Nat.reduceMul, Int.reduceLE, Int.reduceLT, Int.reduceBEq, hks2, e6, e5, h2, h3, h4, h5, w3, hoc])
                exact ⟨rfl, _, rfl, .inr ⟨i, rfl, ⟨_, hmem, by omega, hoc⟩, hpre⟩⟩
            · repeat (first | rw [kz_o] | rw [kz_r0] | simp -dsimp -implicitDefEqProofs only [go_sem, Nat.reduceBEq, Nat.reduceAdd, Nat.reduceLeDiff, Nat.reduceMul, Int.reduceLE, Int.reduceLT, Int.reduceBEq, hks2, e6, e5, h2, h3, h4, h5, w3, w2])
              refine nx_keep (m2 - 1) (by omega) (by simp -dsimp -implicitDefEqProofs only [go_sem, Nat.reduceBEq, Nat.reduceAdd, Nat.reduceLeDiff, Nat.reduceMul, Int.reduceLE, Int.reduceLT, Int.reduceBEq, hks, hks2]) ⟨k + 1, rfl, by simp -dsimp -implicitDefEqProofs only [go_sem, Nat.reduceBEq, Nat.reduceAdd, Nat.reduceLeDiff, Nat.reduceMul, Int.reduceLE, Int.reduceLT, Int.reduceBEq, w2], by omega, next fun h0 => ?_⟩
              cases ho : occ t (ss.getD k default) i
              · rfl
              · have := occ_room h0 ho; omega
          · repeat (first | rw [kz_o] | rw [kz_r0] | simp -dsimp -implicitDefEqProofs only [go_sem, Nat.reduceBEq, Nat.reduceAdd, Nat.reduceLeDiff, Nat.reduceMul, Int.reduceLE, Int.reduceLT, Int.reduceBEq, hks2, e6, e5, h2, h3, h4, w3, w2])
            exact nx_keep (m2 - 1) (by omega) (by simp -dsimp -implicitDefEqProofs only [go_sem, Nat.reduceBEq, Nat.reduceAdd, Nat.reduceLeDiff, Nat.reduceMul, Int.reduceLE, Int.reduceLT, Int.reduceBEq, hks, hks2]) ⟨k + 1, rfl, by simp -dsimp -implicitDefEqProofs only [go_sem, Nat.reduceBEq, Nat.reduceAdd, Nat.reduceLeDiff, Nat.reduceMul, Int.reduceLE, Int.reduceLT, Int.reduceBEq, w2], by omega, next fun h0 => absurd h0 (by omega)⟩
        · repeat (first | rw [kz_o] | rw [kz_r0] | simp -dsimp -implicitDefEqProofs only [go_sem, Nat.reduceBEq, Nat.reduceAdd, Nat.reduceLeDiff, Nat.reduceMul, Int.reduceLE, Int.reduceLT, Int.reduceBEq, hks2, e6, e5, h2, w1])
          refine nx_keep (m - 1) (by omega) (by simp -dsimp -implicitDefEqProofs only [go_sem, Nat.reduceBEq, Nat.reduceAdd, Nat.reduceLeDiff, Nat.reduceMul, Int.reduceLE, Int.reduceLT, Int.reduceBEq, hks, hks2]) ⟨i + 1, rfl, by simp -dsimp -implicitDefEqProofs only [go_sem, Nat.reduceBEq, Nat.reduceAdd, Nat.reduceLeDiff, Nat.reduceMul, Int.reduceLE, Int.reduceLT, Int.reduceBEq, w1], by omega, fun j hj s hs h0 => ?_⟩
          by_cases hji : j = i
          · subst hji
            obtain ⟨q, hq, rfl⟩ := List.getElem_of_mem hs
            have := hpre2 q (by omega)
            rw [List.getD_eq_getElem?_getD, List.getElem?_eq_getElem hq] at this
            exact this h0
          · exact hpre j (by omega) s hs h0
    · repeat (first | rw [kz_o] | rw [kz_r0] | simp -dsimp -implicitDefEqProofs only [go_sem, Nat.reduceBEq, Nat.reduceAdd, Nat.reduceLeDiff, Nat.reduceMul, Int.reduceLE, Int.reduceLT, Int.reduceBEq, hks, e5, h1])
      refine ⟨rfl, _, rfl, .inl ⟨rfl, fun j s hs h0 => ?_⟩⟩
      by_cases hj : j < i
      · exact hpre j hj s hs h0
      · cases ho : occ t s j
        · rfl
        · have := occ_room h0 ho; omega
theorem implStopped_ok {F F' : Nat → Adr} {f : Adr} {m : LModel} {c : LConfig} {ts : List Int} {g : H2} (hW : Lng W0) (hl : m.merges.length ≤ 1048576) (ht : ts.length ≤ 1048576) (hs : c.stops.length ≤ 1048576) : PW Try.prog W0 21 [.st (xModel F m), .st (xConfig F' c), .sl f 1 (ints ts)] g (fun y => y = stopR (decT m.merges ts) c.stops) := by
  refine PW.plainK ?_
  refine start (P := Try.prog) [[0, 1, 2], [2, 3, 4], [4, 8], [4, 8, 10], [8, 10, 22, 23, 24], [8, 10, 22, 23, 24], [8, 10, 12, 22, 23, 24], [8, 10, 12, 13, 22, 23, 24], [8, 13, 22, 23, 24], [8, 10, 22, 23, 24], [8, 10], [8], [8, 10]] (by kernel_rfl) Try.func21 rfl (by decide) (by decide +kernel) (rs := [.tmp 6, .tmp 7]) rfl rfl (Nat.le_of_ble_eq_true rfl) ?_
  intro wf
  repeat (first | rw [kz_o] | rw [kz_r0] | simp -dsimp -implicitDefEqProofs only [go_sem, Nat.reduceBEq, Nat.reduceAdd, Nat.reduceLeDiff, Nat.reduceMul, Int.reduceLE, Int.reduceLT, Int.reduceBEq, hoo])
  refine pw_intro (implDecode_ok hl ht) ?_
  rintro _ n1 hn1 rfl
  simp only [hn_push] at hn1
  rw [decR_eq]
  repeat (first | rw [kz_o] | rw [kz_r0] | simp -dsimp -implicitDefEqProofs only [go_sem, Nat.reduceBEq, Nat.reduceAdd, Nat.reduceLeDiff, Nat.reduceMul, Int.reduceLE, Int.reduceLT, Int.reduceBEq, hoo])
  have hd := @decT_size m.merges ts
  generalize decT m.merges ts = t at *
  refine lz_keep [8, 22, 23] (fun mm e h' => ∃ (i : Nat), g.le h' ∧ look e 24 .mk = .raw (.int .i64 (i : Nat)) ∧ look e 10 .mk = .raw (.int .i64 (firstP t (c.stops.take i))) ∧ mm + i = c.stops.length) c.stops.length ?_ ?_
  · exact ⟨0, le_up (le_push (le_push (H2.le.refl _))) (by rw [hn_push, hn_push]; omega), by simp -dsimp -implicitDefEqProofs only [go_sem, Nat.reduceBEq, Nat.reduceAdd, Nat.reduceLeDiff, Nat.reduceMul, Int.reduceLE, Int.reduceLT, Int.reduceBEq], by simp -dsimp -implicitDefEqProofs only [go_sem, Nat.reduceBEq, Nat.reduceAdd, Nat.reduceLeDiff, Nat.reduceMul, Int.reduceLE, Int.reduceLT, Int.reduceBEq] <;> rfl, by omega⟩
  · rintro mm e h' hks ⟨i, lg, e24, e10, hm⟩
    simp -dsimp -implicitDefEqProofs only [go_sem, Nat.reduceBEq, Nat.reduceAdd, Nat.reduceLeDiff, Nat.reduceMul, Int.reduceLE, Int.reduceLT, Int.reduceBEq] at hks
    by_cases h3 : (i : Int) < (c.stops.length : Int)
    · have h4 : i < c.stops.length := by omega
      have w1 : IntKind.i64.wrap ((i : Int) + 1) = ((i + 1 : Nat) : Int) := by rw [wrap_i64] <;> omega
      repeat (first | rw [kz_o] | rw [kz_r0] | simp -dsimp -implicitDefEqProofs only [go_sem, Nat.reduceBEq, Nat.reduceAdd, Nat.reduceLeDiff, Nat.reduceMul, Int.reduceLE, Int.reduceLT, Int.reduceBEq, hks, e24, e10, h3, h4])
      refine wz_intro (index_ok hW (by omega)) ?_
      rintro _ g1 ⟨rfl, rfl⟩
      have hft := firstP_take (t := t) h4
      unfold stepF ixB at hft
      generalize hss : c.stops.getD i default = s at *
      generalize hix : Lib.index t.data.toList s.data.toList = ix at *
      generalize hfr : firstP t (c.stops.take i) = r at *
      by_cases q0 : 0 < s.size
      · have e0 : (s.toList == (ByteArray.mk #[]).toList) = false := by
          cases hb : (s.toList == (ByteArray.mk #[]).toList)
          · rfl
          · rw [ByteArray.toList_eq, ByteArray.toList_eq, beq_iff_eq] at hb
            have := congrArg List.length hb
            have e : s.data.toList.length = s.size := rfl
            rw [e] at this
            have h2 : s.size = 0 := this
            omega
        by_cases q1 : 0 ≤ ix
        · by_cases q2 : r < 0
          · rw [if_pos ⟨q0, q1, .inl q2⟩] at hft
            repeat (first | rw [kz_o] | rw [kz_r0] | simp -dsimp -implicitDefEqProofs only [go_sem, Nat.reduceBEq, Nat.reduceAdd, Nat.reduceLeDiff, Nat.reduceMul, Int.reduceLE, Int.reduceLT, Int.reduceBEq, hks, e24, e10, e0, q1, q2, w1, ge_iff_le])
            exact nx_keep (mm - 1) (by omega) (by simp -dsimp -implicitDefEqProofs only [go_sem, Nat.reduceBEq, Nat.reduceAdd, Nat.reduceLeDiff, Nat.reduceMul, Int.reduceLE, Int.reduceLT, Int.reduceBEq, hks]) ⟨i + 1, lg, by simp -dsimp -implicitDefEqProofs only [go_sem, Nat.reduceBEq, Nat.reduceAdd, Nat.reduceLeDiff, Nat.reduceMul, Int.reduceLE, Int.reduceLT, Int.reduceBEq, w1], by simp -dsimp -implicitDefEqProofs only [go_sem, Nat.reduceBEq, Nat.reduceAdd, Nat.reduceLeDiff, Nat.reduceMul, Int.reduceLE, Int.reduceLT, Int.reduceBEq, hft], by omega⟩
          · by_cases q3 : ix < r
            · rw [if_pos ⟨q0, q1, .inr q3⟩] at hft
              repeat (first | rw [kz_o] | rw [kz_r0] | simp -dsimp -implicitDefEqProofs only [go_sem, Nat.reduceBEq, Nat.reduceAdd, Nat.reduceLeDiff, Nat.reduceMul, Int.reduceLE, Int.reduceLT, Int.reduceBEq, hks, e24, e10, e0, q1, q2, q3, w1, ge_iff_le])
              exact nx_keep (mm - 1) (by omega) (by simp -dsimp -implicitDefEqProofs only [go_sem, Nat.reduceBEq, Nat.reduceAdd, Nat.reduceLeDiff, Nat.reduceMul, Int.reduceLE, Int.reduceLT, Int.reduceBEq, hks]) ⟨i + 1, lg, by simp -dsimp -implicitDefEqProofs only [go_sem, Nat.reduceBEq, Nat.reduceAdd, Nat.reduceLeDiff, Nat.reduceMul, Int.reduceLE, Int.reduceLT, Int.reduceBEq, w1], by simp -dsimp -implicitDefEqProofs only [go_sem, Nat.reduceBEq, Nat.reduceAdd, Nat.reduceLeDiff, Nat.reduceMul, Int.reduceLE, Int.reduceLT, Int.reduceBEq, hft], by omega⟩
            · rw [if_neg (by omega)] at hft
              repeat (first | rw [kz_o] | rw [kz_r0] | simp -dsimp -implicitDefEqProofs only [go_sem, Nat.reduceBEq, Nat.reduceAdd, Nat.reduceLeDiff, Nat.reduceMul, Int.reduceLE, Int.reduceLT, Int.reduceBEq, hks, e24, e10, e0, q1, q2, q3, w1, ge_iff_le])
              exact nx_keep (mm - 1) (by omega) (by simp -dsimp -implicitDefEqProofs only [go_sem, Nat.reduceBEq, Nat.reduceAdd, Nat.reduceLeDiff, Nat.reduceMul, Int.reduceLE, Int.reduceLT, Int.reduceBEq, hks]) ⟨i + 1, lg, by simp -dsimp -implicitDefEqProofs only [go_sem, Nat.reduceBEq, Nat.reduceAdd, Nat.reduceLeDiff, Nat.reduceMul, Int.reduceLE, Int.reduceLT, Int.reduceBEq, w1], by simp -dsimp -implicitDefEqProofs only [go_sem, Nat.reduceBEq, Nat.reduceAdd, Nat.reduceLeDiff, Nat.reduceMul, Int.reduceLE, Int.reduceLT, Int.reduceBEq, hft], by omega⟩
        · rw [if_neg (by omega)] at hft
          repeat (first | rw [kz_o] | rw [kz_r0] | simp -dsimp -implicitDefEqProofs only [go_sem, Nat.reduceBEq, Nat.reduceAdd, Nat.reduceLeDiff, Nat.reduceMul, Int.reduceLE, Int.reduceLT, Int.reduceBEq, hks, e24, e10, e0, q1, w1, ge_iff_le])
          exact nx_keep (mm - 1) (by omega) (by simp -dsimp -implicitDefEqProofs only [go_sem, Nat.reduceBEq, Nat.reduceAdd, Nat.reduceLeDiff, Nat.reduceMul, Int.reduceLE, Int.reduceLT, Int.reduceBEq, hks]) ⟨i + 1, lg, by simp -dsimp -implicitDefEqProofs only [go_sem, Nat.reduceBEq, Nat.reduceAdd, Nat.reduceLeDiff, Nat.reduceMul, Int.reduceLE, Int.reduceLT, Int.reduceBEq, w1], by simp -dsimp -implicitDefEqProofs only [go_sem, Nat.reduceBEq, Nat.reduceAdd, Nat.reduceLeDiff, Nat.reduceMul, Int.reduceLE, Int.reduceLT, Int.reduceBEq, hft], by omega⟩
      · have e0 : (s.toList == (ByteArray.mk #[]).toList) = true := by
          rw [ByteArray.toList_eq, ByteArray.toList_eq, beq_iff_eq]
          have e : s.data.toList.length = s.size := rfl
          exact List.eq_nil_of_length_eq_zero (by omega)
        rw [if_neg (by omega)] at hft
        repeat (first | rw [kz_o] | rw [kz_r0] | simp -dsimp -implicitDefEqProofs only [go_sem, Nat.reduceBEq, Nat.reduceAdd, Nat.reduceLeDiff, Nat.reduceMul, Int.reduceLE, Int.reduceLT, Int.reduceBEq, hks, e24, e10, e0, w1])
        exact nx_keep (mm - 1) (by omega) (by simp -dsimp -implicitDefEqProofs only [go_sem, Nat.reduceBEq, Nat.reduceAdd, Nat.reduceLeDiff, Nat.reduceMul, Int.reduceLE, Int.reduceLT, Int.reduceBEq, hks]) ⟨i + 1, lg, by simp -dsimp -implicitDefEqProofs only [go_sem, Nat.reduceBEq, Nat.reduceAdd, Nat.reduceLeDiff, Nat.reduceMul, Int.reduceLE, Int.reduceLT, Int.reduceBEq, w1], by simp -dsimp -implicitDefEqProofs only [go_sem, Nat.reduceBEq, Nat.reduceAdd, Nat.reduceLeDiff, Nat.reduceMul, Int.reduceLE, Int.reduceLT, Int.reduceBEq, hft], by omega⟩
    · obtain rfl : i = c.stops.length := by omega
      rw [List.take_length] at e10
      have hr := @first_rng t c.stops
      repeat (first | rw [kz_o] | rw [kz_r0] | simp -dsimp -implicitDefEqProofs only [go_sem, Nat.reduceBEq, Nat.reduceAdd, Nat.reduceLeDiff, Nat.reduceMul, Int.reduceLE, Int.reduceLT, Int.reduceBEq, hks, e24, e10, h3])
      refine gz_dec (fun h1 => ?_) (fun h1 => ?_)
      · repeat (first | rw [kz_o] | rw [kz_r0] | simp -dsimp -implicitDefEqProofs only [go_sem, Nat.reduceBEq, Nat.reduceAdd, Nat.reduceLeDiff, Nat.reduceMul, Int.reduceLE, Int.reduceLT, Int.reduceBEq, hks, e10, h1])
        exact ⟨lg, .inr ⟨[_, _], rfl⟩, by rw [stopR, stopT, if_pos h1, decide_eq_true h1]; rfl⟩
      · obtain ⟨k, hk⟩ : ∃ k : Nat, firstP t c.stops = (k : Int) := ⟨(firstP t c.stops).toNat, by omega⟩
        have b1 : (k : Int) ≤ (t.size : Int) := by omega
        rw [stopR, stopT, if_neg h1, decide_eq_false h1]
        rw [hk] at h1 e10 ⊢
        repeat (first | rw [kz_o] | rw [kz_r0] | simp -dsimp -implicitDefEqProofs only [go_sem, Nat.reduceBEq, Nat.reduceAdd, Nat.reduceLeDiff, Nat.reduceMul, Int.reduceLE, Int.reduceLT, Int.reduceBEq, hks, e10, h1, b1])
        exact ⟨lg, .inr ⟨[_, _], rfl⟩, rfl⟩
theorem specStopped_ok {F F' : Nat → Adr} {f : Adr} {m : LModel} {c : LConfig} {ts : List Int} {g : H2} (hl : m.merges.length ≤ 1048576) (ht : ts.length ≤ 1048576) (hs : c.stops.length ≤ 1048576) (hz : ∀ s ∈ c.stops, s.size ≤ 1048576) : PW Try.prog W0 17 [.st (xModel F m), .st (xConfig F' c), .sl f 1 (ints ts)] g (fun y => y = stopR (decT m.merges ts) c.stops) := by
  refine PW.plainK ?_
  refine start (P := Try.prog) [[0, 1, 2], [2, 3, 4], [4, 8], [8, 10], [8], [8, 10]] (by kernel_rfl) Try.func17 rfl (by decide) (by decide +kernel) (rs := [.tmp 6, .tmp 7]) rfl rfl (Nat.le_of_ble_eq_true rfl) ?_
  intro wf
  repeat (first | rw [kz_o] | rw [kz_r0] | simp -dsimp -implicitDefEqProofs only [go_sem, Nat.reduceBEq, Nat.reduceAdd, Nat.reduceLeDiff, Nat.reduceMul, Int.reduceLE, Int.reduceLT, Int.reduceBEq, hoo])
  refine pw_intro (specDecode_ok hl ht) ?_
  rintro _ n1 hn1 rfl
  simp only [hn_push] at hn1
  rw [decR_eq]
  repeat (first | rw [kz_o] | rw [kz_r0] | simp -dsimp -implicitDefEqProofs only [go_sem, Nat.reduceBEq, Nat.reduceAdd, Nat.reduceLeDiff, Nat.reduceMul, Int.reduceLE, Int.reduceLT, Int.reduceBEq, hoo])
  refine pw_intro (find_ok (by have := @decT_size m.merges ts; omega) hs hz) ?_
  rintro _ n2 hn2 rfl
  simp only [hn_up] at hn2
  have hd := @decT_size m.merges ts
  generalize decT m.merges ts = t at *
  have hr := @first_rng t c.stops
  repeat (first | rw [kz_o] | rw [kz_r0] | simp -dsimp -implicitDefEqProofs only [go_sem, Nat.reduceBEq, Nat.reduceAdd, Nat.reduceLeDiff, Nat.reduceMul, Int.reduceLE, Int.reduceLT, Int.reduceBEq, hoo])
  have LL : ∀ (k1 k2 : OB), g.le ((((g.push k1).push k2).up n1).up n2) := fun k1 k2 => le_up (le_up (le_push (le_push (H2.le.refl _))) (by rw [hn_push, hn_push]; omega)) (by rw [hn_up]; omega)
  refine gz_dec (fun h1 => ?_) (fun h1 => ?_)
  · repeat (first | rw [kz_o] | rw [kz_r0] | simp -dsimp -implicitDefEqProofs only [go_sem, Nat.reduceBEq, Nat.reduceAdd, Nat.reduceLeDiff, Nat.reduceMul, Int.reduceLE, Int.reduceLT, Int.reduceBEq, h1])
    exact ⟨LL _ _, .inr ⟨[_, _], rfl⟩, by rw [stopR, stopT, if_pos h1, decide_eq_true h1]; rfl⟩
  · obtain ⟨k, hk⟩ : ∃ k : Nat, firstP t c.stops = (k : Int) := ⟨(firstP t c.stops).toNat, by omega⟩
    have b1 : (k : Int) ≤ (t.size : Int) := by omega
    rw [stopR, stopT, if_neg h1, decide_eq_false h1]
    rw [hk] at h1 ⊢
    repeat (first | rw [kz_o] | rw [kz_r0] | simp -dsimp -implicitDefEqProofs only [go_sem, Nat.reduceBEq, Nat.reduceAdd, Nat.reduceLeDiff, Nat.reduceMul, Int.reduceLE, Int.reduceLT, Int.reduceBEq, h1, b1])
    exact ⟨LL _ _, .inr ⟨[_, _], rfl⟩, rfl⟩
end Go.Bi
