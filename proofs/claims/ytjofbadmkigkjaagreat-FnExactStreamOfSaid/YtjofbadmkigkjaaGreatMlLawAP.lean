/- Own lemmas that the theorem of this claim needs: the abstract machine and walks of functions. -/
import Derived.Test.YtjofbadmkigkjaaGreatMlLawAA
import Derived.Test.YtjofbadmkigkjaaGreatMlLawAB
import Derived.Test.YtjofbadmkigkjaaGreatMlLawAC
import Derived.Test.YtjofbadmkigkjaaGreatMlLawAD
import Derived.Test.YtjofbadmkigkjaaGreatMlLawAE
import Derived.Test.YtjofbadmkigkjaaGreatMlLawAF
import Derived.Test.YtjofbadmkigkjaaGreatMlLawAG
import Derived.Test.YtjofbadmkigkjaaGreatMlLawAH
import Derived.Test.YtjofbadmkigkjaaGreatMlLawAI
import Derived.Test.YtjofbadmkigkjaaGreatMlLawAJ
import Derived.Test.YtjofbadmkigkjaaGreatMlLawAK
import Derived.Test.YtjofbadmkigkjaaGreatMlLawAL
import Derived.Test.YtjofbadmkigkjaaGreatMlLawAM
import Derived.Test.YtjofbadmkigkjaaGreatMlLawAN
import Derived.Test.YtjofbadmkigkjaaGreatMlLawAO
section
set_option linter.unusedSimpArgs false
set_option linter.unusedVariables false
set_option maxRecDepth 20000
namespace Go.Bi
open Go.Proofs
open Go.Ai (wrap_i64 wrap_u8 Heap)
variable {W0 : World} {P : Program}
set_option maxHeartbeats 4000000
def strK (s : ByteArray) (hh l : Option Nat) : Option X := match hh, l with
  | some hh, some l => some (.raw (.string (s.extract l hh)))
  | _, _ => none
theorem strK_some {s : ByteArray} {hh l : Nat} : strK s (some hh) (some l) = some (.raw (.string (s.extract l hh))) := rfl
theorem slice_strK {t : TypeId} {h : H2} {s : ByteArray} {lo hi : Option X} (hc : Go.Ai.cls? P t = some .str) :
    slicez P h t (.raw (.string s)) lo hi none .mk = strK s (boundX s.size hi s.size) (bndL (boundX s.size hi s.size) lo) := by
  simp only [slicez, sliceX, hc, Option.isSome_none, Bool.false_eq_true, if_false, strK, bndL]
  cases boundX s.size hi s.size with
  | none => rfl
  | some hh => dsimp only; cases boundX hh lo 0 <;> rfl
attribute [go_sem] strK_some slice_strK
theorem find_ok {f : Adr} {t : ByteArray} {ss : List ByteArray} {g : H2} (ht : t.size ≤ 1048576) (hs : ss.length ≤ 1048576) (hz : ∀ s ∈ ss, s.size ≤ 1048576) : PW Tryz.prog W0 183 [.raw (.string t), .sl f 1 (strs ss)] g (fun y => y = .raw (.int .i64 (firstP t ss))) := by
  refine PW.scalar ((?_ : WC2 _ _ _ _ _ fun v g' => g' = g ∧ ∃ r, v = .raw (.int .i64 r) ∧ FindP t ss r).mono fun v g' ⟨h1, r, h2, h3⟩ => ⟨by rw [h1]; exact H2.le.refl _, ⟨_, h2⟩, by rw [h2, h3.one find_first]⟩)
  refine start (P := Tryz.prog) [[0, 1], [0, 1], [0, 1, 5], [0, 1, 5], [0, 1, 5], [0, 1, 5, 6], [0, 1, 5, 6], [0, 1, 5, 6], [0, 1, 5, 6, 7], [5], []] (by kernel_rfl) Tryz.func183 rfl (by decide) (by decide +kernel) (rs := [.tmp 4]) rfl rfl (Nat.le_of_ble_eq_true rfl) ?_
  intro wf
  repeat (first | rw [kz_o] | rw [kz_r0] | simp -dsimp -implicitDefEqProofs only [go_sem, Nat.reduceBEq, Nat.reduceAdd, Nat.reduceLeDiff, Nat.reduceMul, Int.reduceLE, Int.reduceLT, Int.reduceBEq])
  refine lz_keep [0, 1] (fun m e h' => ∃ (i : Nat), h' = g ∧ look e 5 .mk = .raw (.int .i64 (i : Nat)) ∧ m + i = t.size ∧ ∀ j, j < i → ∀ s ∈ ss, 0 < s.size → occ t s j = false) t.size ?_ ?_
  · exact ⟨0, rfl, by simp -dsimp -implicitDefEqProofs only [go_sem, Nat.reduceBEq, Nat.reduceAdd, Nat.reduceLeDiff, Nat.reduceMul, Int.reduceLE, Int.reduceLT, Int.reduceBEq], by omega, fun j hj => by omega⟩
  · rintro m e h' hks ⟨i, rfl, e5, hm, hpre⟩
    simp -dsimp -implicitDefEqProofs only [go_sem, Nat.reduceBEq, Nat.reduceAdd, Nat.reduceLeDiff, Nat.reduceMul, Int.reduceLE, Int.reduceLT, Int.reduceBEq] at hks
    by_cases h1 : (i : Int) < (t.size : Int)
    · have w1 : IntKind.i64.wrap ((i : Int) + 1) = ((i + 1 : Nat) : Int) := by rw [wrap_i64] <;> omega
      repeat (first | rw [kz_o] | rw [kz_r0] | simp -dsimp -implicitDefEqProofs only [go_sem, Nat.reduceBEq, Nat.reduceAdd, Nat.reduceLeDiff, Nat.reduceMul, Int.reduceLE, Int.reduceLT, Int.reduceBEq, hks, e5, h1])
      refine lz_keep [0, 1, 5] (fun m2 e2 h2' => ∃ (k : Nat), h2' = h' ∧ look e2 6 .mk = .raw (.int .i64 (k : Nat)) ∧ m2 + k = ss.length ∧ ∀ q, q < k → 0 < (ss.getD q default).size → occ t (ss.getD q default) i = false) ss.length ?_ ?_
      · exact ⟨0, rfl, by simp -dsimp -implicitDefEqProofs only [go_sem, Nat.reduceBEq, Nat.reduceAdd, Nat.reduceLeDiff, Nat.reduceMul, Int.reduceLE, Int.reduceLT, Int.reduceBEq], by omega, fun j hj => by omega⟩
      · rintro m2 e2 _ hks2 ⟨k, rfl, e6, hm2, hpre2⟩
        simp -dsimp -implicitDefEqProofs only [go_sem, Nat.reduceBEq, Nat.reduceAdd, Nat.reduceLeDiff, Nat.reduceMul, Int.reduceLE, Int.reduceLT, Int.reduceBEq, hks] at hks2
        by_cases h2 : (k : Int) < (ss.length : Int)
        · have h3 : k < ss.length := by omega
          have w2 : IntKind.i64.wrap ((k : Int) + 1) = ((k + 1 : Nat) : Int) := by rw [wrap_i64] <;> omega
          have hmem : ss.getD k default ∈ ss := by rw [List.getD_eq_getElem?_getD, List.getElem?_eq_getElem h3]; exact List.getElem_mem h3
          have hkz := hz _ hmem
          repeat (first | rw [kz_o] | rw [kz_r0] | simp -dsimp -implicitDefEqProofs only [go_sem, Nat.reduceBEq, Nat.reduceAdd, Nat.reduceLeDiff, Nat.reduceMul, Int.reduceLE, Int.reduceLT, Int.reduceBEq, hks2, e6, h2, h3])
          refine dq_intro [(0, []), (1, []), (2, []), (3, []), (4, []), (5, []), (6, []), (7, []), (8, []), (9, []), (10, []), (11, []), (12, []), (13, []), (14, []), (15, []), (16, []), (17, []), (18, []), (19, []), (20, []), (21, []), (22, [])] (by kernel_rfl) ?_
          have w3 : IntKind.i64.wrap ((i : Int) + ((ss.getD k default).size : Int)) = ((i + (ss.getD k default).size : Nat) : Int) := by rw [wrap_i64] <;> omega
          have next : (0 < (ss.getD k default).size → occ t (ss.getD k default) i = false) → ∀ q, q < k + 1 → 0 < (ss.getD q default).size → occ t (ss.getD q default) i = false := fun hn q hq h0 => by
            by_cases hqk : q = k
            · subst hqk; exact hn h0
            · exact hpre2 q (by omega) h0
          by_cases h4 : ((ss.getD k default).size : Int) > 0
          · by_cases h5 : ((i + (ss.getD k default).size : Nat) : Int) ≤ (t.size : Int)
            · have b2 : (i : Int) ≤ ((i + (ss.getD k default).size : Nat) : Int) := by omega
              have ho := occ_eq (t := t) (s := ss.getD k default) (i := i) (by omega)
              repeat (first | rw [kz_o] | rw [kz_r0] | simp -dsimp -implicitDefEqProofs only [go_sem, Nat.reduceBEq, Nat.reduceAdd, Nat.reduceLeDiff, Nat.reduceMul, Int.reduceLE, Int.reduceLT, Int.reduceBEq, hks2, e6, e5, h2, h3, h4, h5, w3, b2, ← ho])
              cases hoc : occ t (ss.getD k default) i
              · repeat (first | rw [kz_o] | rw [kz_r0] | simp -dsimp -implicitDefEqProofs only [go_sem, Nat.reduceBEq, Nat.reduceAdd, Nat.reduceLeDiff, Nat.reduceMul, Int.reduceLE, Int.reduceLT, Int.reduceBEq, hks2, e6, e5, h2, h3, h4, h5, w2, hoc])
                exact nx_keep (m2 - 1) (by omega) (by simp -dsimp -implicitDefEqProofs only [go_sem, Nat.reduceBEq, Nat.reduceAdd, Nat.reduceLeDiff, Nat.reduceMul, Int.reduceLE, Int.reduceLT, Int.reduceBEq, hks, hks2]) ⟨k + 1, rfl, by simp -dsimp -implicitDefEqProofs only [go_sem, Nat.reduceBEq, Nat.reduceAdd, Nat.reduceLeDiff, Nat.reduceMul, Int.reduceLE, Int.reduceLT, Int.reduceBEq, w2], by omega, next fun _ => hoc⟩
              · repeat (first | rw [kz_o] | rw [kz_r0] | simp -dsimp -implicitDefEqProofs only [go_sem, Nat.reduceBEq, Nat.reduceAdd, Nat.reduceLeDiff, Nat.reduceMul, Int.reduceLE, Int.reduceLT, Int.reduceBEq, hks2, e6, e5, h2, h3, h4, h5, w3, hoc])
                exact ⟨rfl, _, rfl, .inr ⟨i, rfl, ⟨_, hmem, by omega, hoc⟩, hpre⟩⟩
            · repeat (first | rw [kz_o] | rw [kz_r0] | simp -dsimp -implicitDefEqProofs only [go_sem, Nat.reduceBEq, Nat.reduceAdd, Nat.reduceLeDiff, Nat.reduceMul, Int.reduceLE, Int.reduceLT, Int.reduceBEq, hks2, e6, e5, h2, h3, h4, h5, w3, w2])
              refine nx_keep (m2 - 1) (by omega) (by simp -dsimp -implicitDefEqProofs only [go_sem, Nat.reduceBEq, Nat.reduceAdd, Nat.reduceLeDiff, Nat.reduceMul, Int.reduceLE, Int.reduceLT, Int.reduceBEq, hks, hks2]) ⟨k + 1, rfl, by simp -dsimp -implicitDefEqProofs only [go_sem, Nat.reduceBEq, Nat.reduceAdd, Nat.reduceLeDiff, Nat.reduceMul, Int.reduceLE, Int.reduceLT, Int.reduceBEq, w2], by omega, next fun h0 => ?_⟩
              cases ho : occ t (ss.getD k default) i
              · rfl
              · have := occ_room h0 ho; omega
          · repeat (first | rw [kz_o] | rw [kz_r0] | simp -dsimp -implicitDefEqProofs only [go_sem, Nat.reduceBEq, Nat.reduceAdd, Nat.reduceLeDiff, Nat.reduceMul, Int.reduceLE, Int.reduceLT, Int.reduceBEq, hks2, e6, e5, h2, h3, h4, w3, w2])
            exact nx_keep (m2 - 1) (by omega) (by simp -dsimp -implicitDefEqProofs only [go_sem, Nat.reduceBEq, Nat.reduceAdd, Nat.reduceLeDiff, Nat.reduceMul, Int.reduceLE, Int.reduceLT, Int.reduceBEq, hks, hks2]) ⟨k + 1, rfl, by simp -dsimp -implicitDefEqProofs only [go_sem, Nat.reduceBEq, Nat.reduceAdd, Nat.reduceLeDiff, Nat.reduceMul, Int.reduceLE, Int.reduceLT, Int.reduceBEq, w2], by omega, next fun h0 => absurd h0 (by omega)⟩
        · repeat (first | rw [kz_o] | rw [kz_r0] | simp -dsimp -implicitDefEqProofs only [go_sem, Nat.reduceBEq, Nat.reduceAdd, Nat.reduceLeDiff, Nat.reduceMul, Int.reduceLE, Int.reduceLT, Int.reduceBEq, hks2, e6, e5, h2, w1])
          refine nx_keep (m - 1) (by omega) (by simp -dsimp -implicitDefEqProofs only [go_sem, Nat.reduceBEq, Nat.reduceAdd, Nat.reduceLeDiff, Nat.reduceMul, Int.reduceLE, Int.reduceLT, Int.reduceBEq, hks, hks2]) ⟨i + 1, rfl, by simp -dsimp -implicitDefEqProofs only [go_sem, Nat.reduceBEq, Nat.reduceAdd, Nat.reduceLeDiff, Nat.reduceMul, Int.reduceLE, Int.reduceLT, Int.reduceBEq, w1], by omega, fun j hj s hs h0 => ?_⟩
          by_cases hji : j = i
          · subst hji
            obtain ⟨q, hq, rfl⟩ := List.getElem_of_mem hs
            have := hpre2 q (by omega)
            rw [List.getD_eq_getElem?_getD, List.getElem?_eq_getElem hq] at this
            exact this h0
          · exact hpre j (by omega) s hs h0
    · repeat (first | rw [kz_o] | rw [kz_r0] | simp -dsimp -implicitDefEqProofs only [go_sem, Nat.reduceBEq, Nat.reduceAdd, Nat.reduceLeDiff, Nat.reduceMul, Int.reduceLE, Int.reduceLT, Int.reduceBEq, hks, e5, h1])
      refine ⟨rfl, _, rfl, .inl ⟨rfl, fun j s hs h0 => ?_⟩⟩
      by_cases hj : j < i
      · exact hpre j hj s hs h0
      · cases ho : occ t s j
        · rfl
        · have := occ_room h0 ho; omega
theorem implStopped_ok {F F' : Nat → Adr} {f : Adr} {m : LModel} {c : LConfig} {ts : List Int} {g : H2} (hW : Lng W0) (hl : m.merges.length ≤ 1048576) (ht : ts.length ≤ 1048576) (hs : c.stops.length ≤ 1048576) : PW Tryz.prog W0 100 [.st (xModel F m), .st (xConfig F' c), .sl f 1 (ints ts)] g (fun y => y = stopR (decT m.merges ts) c.stops) := by
  refine PW.plainK ?_
  refine start (P := Tryz.prog) [[0, 1, 2], [2, 3, 4], [4, 8], [4, 8, 10], [8, 10, 22, 23, 24], [8, 10, 22, 23, 24], [8, 10, 12, 22, 23, 24], [8, 10, 12, 13, 22, 23, 24], [8, 13, 22, 23, 24], [8, 10, 22, 23, 24], [8, 10], [8], [8, 10]] (by kernel_rfl) Tryz.func100 rfl (by decide) (by decide +kernel) (rs := [.tmp 6, .tmp 7]) rfl rfl (Nat.le_of_ble_eq_true rfl) ?_
  intro wf
  repeat (first | rw [kz_o] | rw [kz_r0] | simp -dsimp -implicitDefEqProofs only [go_sem, Nat.reduceBEq, Nat.reduceAdd, Nat.reduceLeDiff, Nat.reduceMul, Int.reduceLE, Int.reduceLT, Int.reduceBEq, hoo])
  refine pw_intro (implDecode_ok hl ht) ?_
  rintro _ n1 hn1 rfl
  simp only [hn_push] at hn1
  rw [decR_eq]
  repeat (first | rw [kz_o] | rw [kz_r0] | simp -dsimp -implicitDefEqProofs only [go_sem, Nat.reduceBEq, Nat.reduceAdd, Nat.reduceLeDiff, Nat.reduceMul, Int.reduceLE, Int.reduceLT, Int.reduceBEq, hoo])
  have hd := @decT_size m.merges ts
  generalize decT m.merges ts = t at *
  refine lz_keep [8, 22, 23] (fun mm e h' => ∃ (i : Nat), g.le h' ∧ look e 24 .mk = .raw (.int .i64 (i : Nat)) ∧ look e 10 .mk = .raw (.int .i64 (firstP t (c.stops.take i))) ∧ mm + i = c.stops.length) c.stops.length ?_ ?_
  · exact ⟨0, le_up (le_push (le_push (H2.le.refl _))) (by rw [hn_push, hn_push]; omega), by simp -dsimp -implicitDefEqProofs only [go_sem, Nat.reduceBEq, Nat.reduceAdd, Nat.reduceLeDiff, Nat.reduceMul, Int.reduceLE, Int.reduceLT, Int.reduceBEq], by simp -dsimp -implicitDefEqProofs only [go_sem, Nat.reduceBEq, Nat.reduceAdd, Nat.reduceLeDiff, Nat.reduceMul, Int.reduceLE, Int.reduceLT, Int.reduceBEq] <;> rfl, by omega⟩
  · rintro mm e h' hks ⟨i, lg, e24, e10, hm⟩
    simp -dsimp -implicitDefEqProofs only [go_sem, Nat.reduceBEq, Nat.reduceAdd, Nat.reduceLeDiff, Nat.reduceMul, Int.reduceLE, Int.reduceLT, Int.reduceBEq] at hks
    by_cases h3 : (i : Int) < (c.stops.length : Int)
    · have h4 : i < c.stops.length := by omega
      have w1 : IntKind.i64.wrap ((i : Int) + 1) = ((i + 1 : Nat) : Int) := by rw [wrap_i64] <;> omega
      repeat (first | rw [kz_o] | rw [kz_r0] | simp -dsimp -implicitDefEqProofs only [go_sem, Nat.reduceBEq, Nat.reduceAdd, Nat.reduceLeDiff, Nat.reduceMul, Int.reduceLE, Int.reduceLT, Int.reduceBEq, hks, e24, e10, h3, h4])
      refine wz_intro (index_ok hW (by omega)) ?_
      rintro _ g1 ⟨rfl, rfl⟩
      have hft := firstP_take (t := t) h4
      unfold stepF ixB at hft
      generalize hss : c.stops.getD i default = s at *
      generalize hix : Lib.index t.data.toList s.data.toList = ix at *
      generalize hfr : firstP t (c.stops.take i) = r at *
      by_cases q0 : 0 < s.size
      · have e0 : (s.toList == (ByteArray.mk #[]).toList) = false := by
          cases hb : (s.toList == (ByteArray.mk #[]).toList)
          · rfl
          · rw [ByteArray.toList_eq, ByteArray.toList_eq, beq_iff_eq] at hb
            have := congrArg List.length hb
            have e : s.data.toList.length = s.size := rfl
            rw [e] at this
            have h2 : s.size = 0 := this
            omega
        by_cases q1 : 0 ≤ ix
        · by_cases q2 : r < 0
          · rw [if_pos ⟨q0, q1, .inl q2⟩] at hft
            repeat (first | rw [kz_o] | rw [kz_r0] | simp -dsimp -implicitDefEqProofs only [go_sem, Nat.reduceBEq, Nat.reduceAdd, Nat.reduceLeDiff, Nat.reduceMul, Int.reduceLE, Int.reduceLT, Int.reduceBEq, hks, e24, e10, e0, q1, q2, w1, ge_iff_le])
            exact nx_keep (mm - 1) (by omega) (by simp -dsimp -implicitDefEqProofs only [go_sem, Nat.reduceBEq, Nat.reduceAdd, Nat.reduceLeDiff, Nat.reduceMul, Int.reduceLE, Int.reduceLT, Int.reduceBEq, hks]) ⟨i + 1, lg, by simp -dsimp -implicitDefEqProofs only [go_sem, Nat.reduceBEq, Nat.reduceAdd, Nat.reduceLeDiff, Nat.reduceMul, Int.reduceLE, Int.reduceLT, Int.reduceBEq, w1], by simp -dsimp -implicitDefEqProofs only [go_sem, Nat.reduceBEq, Nat.reduceAdd, Nat.reduceLeDiff, Nat.reduceMul, Int.reduceLE, Int.reduceLT, Int.reduceBEq, hft], by omega⟩
          · by_cases q3 : ix < r
            · rw [if_pos ⟨q0, q1, .inr q3⟩] at hft
              repeat (first | rw [kz_o] | rw [kz_r0] | simp -dsimp -implicitDefEqProofs only [go_sem, Nat.reduceBEq, Nat.reduceAdd, Nat.reduceLeDiff, Nat.reduceMul, Int.reduceLE, Int.reduceLT, Int.reduceBEq, hks, e24, e10, e0, q1, q2, q3, w1, ge_iff_le])
              exact nx_keep (mm - 1) (by omega) (by simp -dsimp -implicitDefEqProofs only [go_sem, Nat.reduceBEq, Nat.reduceAdd, Nat.reduceLeDiff, Nat.reduceMul, Int.reduceLE, Int.reduceLT, Int.reduceBEq, hks]) ⟨i + 1, lg, by simp -dsimp -implicitDefEqProofs only [go_sem, Nat.reduceBEq, Nat.reduceAdd, Nat.reduceLeDiff, Nat.reduceMul, Int.reduceLE, Int.reduceLT, Int.reduceBEq, w1], by simp -dsimp -implicitDefEqProofs only [go_sem, Nat.reduceBEq, Nat.reduceAdd, Nat.reduceLeDiff, Nat.reduceMul, Int.reduceLE, Int.reduceLT, Int.reduceBEq, hft], by omega⟩
            · rw [if_neg (by omega)] at hft
              repeat (first | rw [kz_o] | rw [kz_r0] | simp -dsimp -implicitDefEqProofs only [go_sem, Nat.reduceBEq, Nat.reduceAdd, Nat.reduceLeDiff, Nat.reduceMul, Int.reduceLE, Int.reduceLT, Int.reduceBEq, hks, e24, e10, e0, q1, q2, q3, w1, ge_iff_le])
              exact nx_keep (mm - 1) (by omega) (by simp -dsimp -implicitDefEqProofs only [go_sem, Nat.reduceBEq, Nat.reduceAdd, Nat.reduceLeDiff, Nat.reduceMul, Int.reduceLE, Int.reduceLT, Int.reduceBEq, hks]) ⟨i + 1, lg, by simp -dsimp -implicitDefEqProofs only [go_sem, Nat.reduceBEq, Nat.reduceAdd, Nat.reduceLeDiff, Nat.reduceMul, Int.reduceLE, Int.reduceLT, Int.reduceBEq, w1], by simp -dsimp -implicitDefEqProofs only [go_sem, Nat.reduceBEq, Nat.reduceAdd, Nat.reduceLeDiff, Nat.reduceMul, Int.reduceLE, Int.reduceLT, Int.reduceBEq, hft], by omega⟩
        · rw [if_neg (by omega)] at hft
          repeat (first | rw [kz_o] | rw [kz_r0] | simp -dsimp -implicitDefEqProofs only [go_sem, Nat.reduceBEq, Nat.reduceAdd, Nat.reduceLeDiff, Nat.reduceMul, Int.reduceLE, Int.reduceLT, Int.reduceBEq, hks, e24, e10, e0, q1, w1, ge_iff_le])
          exact nx_keep (mm - 1) (by omega) (by simp -dsimp -implicitDefEqProofs only [go_sem, Nat.reduceBEq, Nat.reduceAdd, Nat.reduceLeDiff, Nat.reduceMul, Int.reduceLE, Int.reduceLT, Int.reduceBEq, hks]) ⟨i + 1, lg, by simp -dsimp -implicitDefEqProofs only [go_sem, Nat.reduceBEq, Nat.reduceAdd, Nat.reduceLeDiff, Nat.reduceMul, Int.reduceLE, Int.reduceLT, Int.reduceBEq, w1], by simp -dsimp -implicitDefEqProofs only [go_sem, Nat.reduceBEq, Nat.reduceAdd, Nat.reduceLeDiff, Nat.reduceMul, Int.reduceLE, Int.reduceLT, Int.reduceBEq, hft], by omega⟩
      · have e0 : (s.toList == (ByteArray.mk #[]).toList) = true := by
          rw [ByteArray.toList_eq, ByteArray.toList_eq, beq_iff_eq]
          have e : s.data.toList.length = s.size := rfl
          exact List.eq_nil_of_length_eq_zero (by omega)
        rw [if_neg (by omega)] at hft
        repeat (first | rw [kz_o] | rw [kz_r0] | simp -dsimp -implicitDefEqProofs only [go_sem, Nat.reduceBEq, Nat.reduceAdd, Nat.reduceLeDiff, Nat.reduceMul, Int.reduceLE, Int.reduceLT, Int.reduceBEq, hks, e24, e10, e0, w1])
        exact nx_keep (mm - 1) (by omega) (by simp -dsimp -implicitDefEqProofs only [go_sem, Nat.reduceBEq, Nat.reduceAdd, Nat.reduceLeDiff, Nat.reduceMul, Int.reduceLE, Int.reduceLT, Int.reduceBEq, hks]) ⟨i + 1, lg, by simp -dsimp -implicitDefEqProofs only [go_sem, Nat.reduceBEq, Nat.reduceAdd, Nat.reduceLeDiff, Nat.reduceMul, Int.reduceLE, Int.reduceLT, Int.reduceBEq, w1], by simp -dsimp -implicitDefEqProofs only [go_sem, Nat.reduceBEq, Nat.reduceAdd, Nat.reduceLeDiff, Nat.reduceMul, Int.reduceLE, Int.reduceLT, Int.reduceBEq, hft], by omega⟩
    · obtain rfl : i = c.stops.length := by omega
      rw [List.take_length] at e10
      have hr := @first_rng t c.stops
      repeat (first | rw [kz_o] | rw [kz_r0] | simp -dsimp -implicitDefEqProofs only [go_sem, Nat.reduceBEq, Nat.reduceAdd, Nat.reduceLeDiff, Nat.reduceMul, Int.reduceLE, Int.reduceLT, Int.reduceBEq, hks, e24, e10, h3])
      refine gz_dec (fun h1 => ?_) (fun h1 => ?_)
      · repeat (first | rw [kz_o] | rw [kz_r0] | simp -dsimp -implicitDefEqProofs only [go_sem, Nat.reduceBEq, Nat.reduceAdd, Nat.reduceLeDiff, Nat.reduceMul, Int.reduceLE, Int.reduceLT, Int.reduceBEq, hks, e10, h1])
        exact ⟨lg, .inr ⟨[_, _], rfl⟩, by rw [stopR, stopT, if_pos h1, decide_eq_true h1]; rfl⟩
      · obtain ⟨k, hk⟩ : ∃ k : Nat, firstP t c.stops = (k : Int) := ⟨(firstP t c.stops).toNat, by omega⟩
        have b1 : (k : Int) ≤ (t.size : Int) := by omega
        rw [stopR, stopT, if_neg h1, decide_eq_false h1]
        rw [hk] at h1 e10 ⊢
        repeat (first | rw [kz_o] | rw [kz_r0] | simp -dsimp -implicitDefEqProofs only [go_sem, Nat.reduceBEq, Nat.reduceAdd, Nat.reduceLeDiff, Nat.reduceMul, Int.reduceLE, Int.reduceLT, Int.reduceBEq, hks, e10, h1, b1])
        exact ⟨lg, .inr ⟨[_, _], rfl⟩, rfl⟩
theorem specStopped_ok {F F' : Nat → Adr} {f : Adr} {m : LModel} {c : LConfig} {ts : List Int} {g : H2} (hl : m.merges.length ≤ 1048576) (ht : ts.length ≤ 1048576) (hs : c.stops.length ≤ 1048576) (hz : ∀ s ∈ c.stops, s.size ≤ 1048576) : PW Tryz.prog W0 97 [.st (xModel F m), .st (xConfig F' c), .sl f 1 (ints ts)] g (fun y => y = stopR (decT m.merges ts) c.stops) := by
  refine PW.plainK ?_
  refine start (P := Tryz.prog) [[0, 1, 2], [2, 3, 4], [4, 8], [8, 10], [8], [8, 10]] (by kernel_rfl) Tryz.func97 rfl (by decide) (by decide +kernel) (rs := [.tmp 6, .tmp 7]) rfl rfl (Nat.le_of_ble_eq_true rfl) ?_
  intro wf
  repeat (first | rw [kz_o] | rw [kz_r0] | simp -dsimp -implicitDefEqProofs only [go_sem, Nat.reduceBEq, Nat.reduceAdd, Nat.reduceLeDiff, Nat.reduceMul, Int.reduceLE, Int.reduceLT, Int.reduceBEq, hoo])
  refine pw_intro (specDecode_ok hl ht) ?_
  rintro _ n1 hn1 rfl
  simp only [hn_push] at hn1
  rw [decR_eq]
  repeat (first | rw [kz_o] | rw [kz_r0] | simp -dsimp -implicitDefEqProofs only [go_sem, Nat.reduceBEq, Nat.reduceAdd, Nat.reduceLeDiff, Nat.reduceMul, Int.reduceLE, Int.reduceLT, Int.reduceBEq, hoo])
  refine pw_intro (find_ok (by have := @decT_size m.merges ts; omega) hs hz) ?_
  rintro _ n2 hn2 rfl
  simp only [hn_up] at hn2
  have hd := @decT_size m.merges ts
  generalize decT m.merges ts = t at *
  have hr := @first_rng t c.stops
  repeat (first | rw [kz_o] | rw [kz_r0] | simp -dsimp -implicitDefEqProofs only [go_sem, Nat.reduceBEq, Nat.reduceAdd, Nat.reduceLeDiff, Nat.reduceMul, Int.reduceLE, Int.reduceLT, Int.reduceBEq, hoo])
  have LL : ∀ (k1 k2 : OB), g.le ((((g.push k1).push k2).up n1).up n2) := fun k1 k2 => le_up (le_up (le_push (le_push (H2.le.refl _))) (by rw [hn_push, hn_push]; omega)) (by rw [hn_up]; omega)
  refine gz_dec (fun h1 => ?_) (fun h1 => ?_)
  · repeat (first | rw [kz_o] | rw [kz_r0] | simp -dsimp -implicitDefEqProofs only [go_sem, Nat.reduceBEq, Nat.reduceAdd, Nat.reduceLeDiff, Nat.reduceMul, Int.reduceLE, Int.reduceLT, Int.reduceBEq, h1])
    exact ⟨LL _ _, .inr ⟨[_, _], rfl⟩, by rw [stopR, stopT, if_pos h1, decide_eq_true h1]; rfl⟩
  · obtain ⟨k, hk⟩ : ∃ k : Nat, firstP t c.stops = (k : Int) := ⟨(firstP t c.stops).toNat, by omega⟩
    have b1 : (k : Int) ≤ (t.size : Int) := by omega
    rw [stopR, stopT, if_neg h1, decide_eq_false h1]
    rw [hk] at h1 ⊢
    repeat (first | rw [kz_o] | rw [kz_r0] | simp -dsimp -implicitDefEqProofs only [go_sem, Nat.reduceBEq, Nat.reduceAdd, Nat.reduceLeDiff, Nat.reduceMul, Int.reduceLE, Int.reduceLT, Int.reduceBEq, h1, b1])
    exact ⟨LL _ _, .inr ⟨[_, _], rfl⟩, rfl⟩
end Go.Bi
end
section
set_option linter.unusedSimpArgs false
set_option linter.unusedVariables false
set_option maxRecDepth 20000
namespace Go.Bi
open Go.Proofs
open Go.Ai (wrap_i64 wrap_u8 Heap)
variable {W0 : World} {P : Program}
theorem mem_sumL {ss : List ByteArray} : ∀ s ∈ ss, s.size ≤ sumL ss := by
  induction ss with
  | nil => intro s hs; cases hs
  | cons t ss ih =>
    intro s hs
    have e : sumL (t :: ss) = t.size + sumL ss := by simp [sumL]
    rcases List.mem_cons.1 hs with rfl | hs
    · omega
    · have := ih s hs; omega
end Go.Bi
end
section
set_option linter.unusedSimpArgs false
set_option linter.unusedVariables false
set_option maxRecDepth 20000
namespace Go.Bi
open Go.Proofs
open Go.Ai (wrap_i64 wrap_u8 Heap)
variable {W0 : World} {P : Program}
set_option maxHeartbeats 4000000
def smallStops (e : LEngine) : Prop := ∀ r ∈ e.requests, ∀ s ∈ r.config.stops, s.size ≤ 1048576
theorem smallStops_of {e : LEngine} (h : szEngine e ≤ 1048576) : smallStops e := by
  intro r hr s hs
  have h1 : r.tokens.length + (r.config.stops.length + sumL r.config.stops) + r.table.pages.length ≤ sumN szRequest e.requests := sumN_mem (f := szRequest) hr
  have h2 := mem_sumL s hs
  unfold szEngine szRequestS at h
  omega
def streamB (e : LEngine) (at_ : Int) : Bool := engB e && inI at_ 0 ((e.requests.length : Int) - 1)
def streamR (e : LEngine) (at_ : Int) : LRequest := e.requests.getD at_.toNat default
def streamT (e : LEngine) (at_ : Int) : ByteArray := if streamB e at_ = true then stopT (decT e.model.merges (gotI (streamR e at_))) (streamR e at_).config.stops else ⟨#[]⟩
def zeroReq : List X := [.raw (.int .i64 0), .raw (.slice none 0 0), .raw (.int .i64 0), .raw (.int .i64 0), .raw (.int .i64 0), .raw (.slice none 0 0), .raw (.int .u64 0), .raw (.slice none 0 0), .raw (.int .i64 0), .raw (.int .i64 0)]
theorem zeroReq_def : zeroReq = [.raw (.int .i64 0), .raw (.slice none 0 0), .raw (.int .i64 0), .raw (.int .i64 0), .raw (.int .i64 0), .raw (.slice none 0 0), .raw (.int .u64 0), .raw (.slice none 0 0), .raw (.int .i64 0), .raw (.int .i64 0)] := rfl
def Told (x : X) : Prop := (∃ v, x = .raw v) ∨ ∃ f z es, x = .sl f z es
theorem Told.fz {p : Nat → Prop} {g : H2} {x : X} (h : Told x) : Fz p (fun _ => True) g x x := by
  rcases h with ⟨v, rfl⟩ | ⟨f, z, es, rfl⟩
  · exact .raw
  · exact .sl (.sl (allT_true _ _))
theorem told_st {p : Nat → Prop} {g : H2} {xs : List X} (h : ∀ x ∈ xs, Told x) : Fz p (fun _ => True) g (.st xs) (.st xs) := .st rfl fun i hi hi' => (h _ (List.getElem_mem hi)).fz
theorem told_2 {p : Nat → Prop} {g : H2} {xs : List X} {v : Value} (h : ∀ x ∈ xs, Told x) : Fz p (fun _ => True) g (.tp [.st xs, .raw v]) (.tp [.st xs, .raw v]) := .tp rfl fun i hi hi' => by
  match i, hi with
  | 0, _ => exact told_st h
  | 1, _ => exact .raw
theorem told_req {F : Nat → Adr} {r : LRequest} : ∀ x ∈ xRequest F r, Told x := fun x hx => by
  simp only [xRequest, List.mem_cons, List.not_mem_nil, or_false] at hx
  rcases hx with rfl | rfl | rfl | rfl | rfl | rfl | rfl | rfl | rfl | rfl
  all_goals first | exact .inl ⟨_, rfl⟩ | exact .inr ⟨_, _, _, rfl⟩
theorem told_zero : ∀ x ∈ zeroReq, Told x := fun x hx => by
  simp only [zeroReq, List.mem_cons, List.not_mem_nil, or_false] at hx
  rcases hx with rfl | rfl | rfl | rfl | rfl | rfl | rfl | rfl | rfl | rfl
  all_goals exact .inl ⟨_, rfl⟩
theorem requestOf_ok {F : Nat → Adr} {e : LEngine} {k : Int} {g : H2} (hs : smallEng e) : PW Tryz.prog W0 99 [.st (xEngine F e), .raw (.int .i64 k)] g (fun y => (streamB e k = true ∧ ∃ F', y = .tp [.st (xRequest F' (streamR e k)), .raw (.bool true)]) ∨ (streamB e k = false ∧ y = .tp [.st zeroReq, .raw (.bool false)])) := by
  have hlen := hs.2.2.2.1
  refine (PW.of (q := fun _ => True) (Q := fun y => (streamB e k = true ∧ ∃ F', y = .tp [.st (xRequest F' (streamR e k)), .raw (.bool true)]) ∨ (streamB e k = false ∧ y = .tp [.st zeroReq, .raw (.bool false)])) ?_).mono fun y h => h.1
  refine start (P := Tryz.prog) [[0, 1], [1, 2, 4], [4], [1, 2, 4]] (by kernel_rfl) Tryz.func99 rfl (by decide) (by decide +kernel) (rs := [.cell 4 102, .tmp 5]) rfl rfl (Nat.le_of_ble_eq_true rfl) ?_
  intro wf
  have hne : (hn g .mk == hn g .mk + 1) = false := by simp
  repeat (first | rw [kz_o] | rw [kz_r0] | simp -dsimp -implicitDefEqProofs only [go_sem, Nat.reduceBEq, Nat.reduceAdd, Nat.reduceLeDiff, Nat.reduceMul, Int.reduceLE, Int.reduceLT, Int.reduceBEq, hoo, hne])
  refine pw_intro (implEngine_ok (F := F) hs) ?_
  rintro _ n1 hn1 rfl
  simp only [hn_push] at hn1
  first | (rw [kz_r]; refine ⟨by simp -dsimp -implicitDefEqProofs only [go_sem, Nat.reduceBEq, Nat.reduceAdd, Nat.reduceLeDiff, Nat.reduceMul, Int.reduceLE, Int.reduceLT, Int.reduceBEq, hoo, hne], ?_⟩) | skip
  cases h1 : engB e
  · repeat (first | rw [kz_o] | rw [kz_r0] | simp -dsimp -implicitDefEqProofs only [go_sem, Nat.reduceBEq, Nat.reduceAdd, Nat.reduceLeDiff, Nat.reduceMul, Int.reduceLE, Int.reduceLT, Int.reduceBEq, hoo, hne])
    refine ⟨by repeat (first | exact H2.le.refl _ | assumption | apply le_push | refine le_set ?_ (by omega) | refine le_up ?_ (by first | assumption | (simp only [hn_up, hn_push] at *; omega))), _, told_2 told_zero, .inr ⟨by rw [streamB, h1]; rfl, rfl⟩⟩
  have w1 : IntKind.i64.wrap ((e.requests.length : Int) - 1) = (e.requests.length : Int) - 1 := by rw [wrap_i64] <;> omega
  repeat (first | rw [kz_o] | rw [kz_r0] | simp -dsimp -implicitDefEqProofs only [go_sem, Nat.reduceBEq, Nat.reduceAdd, Nat.reduceLeDiff, Nat.reduceMul, Int.reduceLE, Int.reduceLT, Int.reduceBEq, hoo, hne, w1])
  refine wz_intro in_ok ?_
  rintro _ _ ⟨rfl, rfl⟩
  first | (rw [kz_r]; refine ⟨by simp -dsimp -implicitDefEqProofs only [go_sem, Nat.reduceBEq, Nat.reduceAdd, Nat.reduceLeDiff, Nat.reduceMul, Int.reduceLE, Int.reduceLT, Int.reduceBEq, hoo, hne], ?_⟩) | skip
  cases h2 : inI k 0 ((e.requests.length : Int) - 1)
  · repeat (first | rw [kz_o] | rw [kz_r0] | simp -dsimp -implicitDefEqProofs only [go_sem, Nat.reduceBEq, Nat.reduceAdd, Nat.reduceLeDiff, Nat.reduceMul, Int.reduceLE, Int.reduceLT, Int.reduceBEq, hoo, hne])
    refine ⟨by repeat (first | exact H2.le.refl _ | assumption | apply le_push | refine le_set ?_ (by omega) | refine le_up ?_ (by first | assumption | (simp only [hn_up, hn_push] at *; omega))), _, told_2 told_zero, .inr ⟨by rw [streamB, h1, h2]; rfl, rfl⟩⟩
  have hr := inI_tt h2
  obtain ⟨i, rfl⟩ := Int.eq_ofNat_of_zero_le hr.1
  have q2 : i < e.requests.length := by omega
  repeat (first | rw [kz_o] | rw [kz_r0] | simp -dsimp -implicitDefEqProofs only [go_sem, Nat.reduceBEq, Nat.reduceAdd, Nat.reduceLeDiff, Nat.reduceMul, Int.reduceLE, Int.reduceLT, Int.reduceBEq, hoo, hne, q2])
  refine ⟨by repeat (first | exact H2.le.refl _ | assumption | apply le_push | refine le_set ?_ (by omega) | refine le_up ?_ (by first | assumption | (simp only [hn_up, hn_push] at *; omega))), _, told_2 (told_req (F := fun j => under (under (F 16) i) j) (r := e.requests.getD i default)), .inl ⟨by rw [streamB, h1, h2]; rfl, _, rfl⟩⟩
theorem stream_no {e : LEngine} {k : Int} (h : streamB e k = false) : X.tp [.raw (.string ⟨#[]⟩), .raw (.bool false)] = .tp [.raw (.string (streamT e k)), .raw (.bool (streamB e k))] := by
  unfold streamT; rw [h]; rfl
theorem stream_yes {e : LEngine} {k : Int} (h : streamB e k = true) : X.tp [.raw (.string (stopT (decT e.model.merges (gotI (streamR e k))) (streamR e k).config.stops)), .raw (.bool true)] = .tp [.raw (.string (streamT e k)), .raw (.bool (streamB e k))] := by
  unfold streamT; rw [h]; rfl
theorem stream_in {e : LEngine} {k : Int} (h : streamB e k = true) : 0 ≤ k ∧ k.toNat < e.requests.length := by
  unfold streamB at h
  rw [Bool.and_eq_true] at h
  have := inI_tt h.2
  omega
theorem implStream_ok {F : Nat → Adr} {e : LEngine} {k : Int} {g : H2} (hW : Lng W0) (hs : smallEng e) (hz : smallStops e) : PW Tryz.prog W0 31 [.st (xEngine F e), .raw (.int .i64 k)] g (fun y => y = .tp [.raw (.string (streamT e k)), .raw (.bool (streamB e k))]) := by
  obtain ⟨s1, s2, s3, s4, s5⟩ := id hs
  refine PW.plainK ?_
  refine start (P := Tryz.prog) [[0, 1], [1, 2], [2, 6, 7], [], [2, 6], [8]] (by kernel_rfl) Tryz.func31 rfl (by decide) (by decide +kernel) (rs := [.tmp 4, .tmp 5]) rfl rfl (Nat.le_of_ble_eq_true rfl) ?_
  intro wf
  repeat (first | rw [kz_o] | rw [kz_r0] | simp -dsimp -implicitDefEqProofs only [go_sem, Nat.reduceBEq, Nat.reduceAdd, Nat.reduceLeDiff, Nat.reduceMul, Int.reduceLE, Int.reduceLT, Int.reduceBEq, hoo])
  refine pw_intro (requestOf_ok (F := F) (k := k) hs) ?_
  rintro _ n1 hn1 (⟨h1, F', rfl⟩ | ⟨h1, rfl⟩)
  rotate_left
  · simp only [hn_push] at hn1
    first | (rw [kz_r]; refine ⟨by simp -dsimp -implicitDefEqProofs only [go_sem, Nat.reduceBEq, Nat.reduceAdd, Nat.reduceLeDiff, Nat.reduceMul, Int.reduceLE, Int.reduceLT, Int.reduceBEq, hoo], ?_⟩) | skip
    repeat (first | rw [kz_o] | rw [kz_r0] | simp -dsimp -implicitDefEqProofs only [go_sem, Nat.reduceBEq, Nat.reduceAdd, Nat.reduceLeDiff, Nat.reduceMul, Int.reduceLE, Int.reduceLT, Int.reduceBEq, hoo, zeroReq_def])
    exact ⟨by repeat (first | exact H2.le.refl _ | assumption | apply le_push | refine le_set ?_ (by omega) | refine le_up ?_ (by first | assumption | (simp only [hn_up, hn_push] at *; omega))), .inr ⟨[_, _], rfl⟩, stream_no h1⟩
  simp only [hn_push] at hn1
  have hin := stream_in h1
  have hr := s5 _ hin.2
  have hne : (hn g .mk == n1) = false := by simp; omega
  first | (rw [kz_r]; refine ⟨by simp -dsimp -implicitDefEqProofs only [go_sem, Nat.reduceBEq, Nat.reduceAdd, Nat.reduceLeDiff, Nat.reduceMul, Int.reduceLE, Int.reduceLT, Int.reduceBEq, hoo], ?_⟩) | skip
  repeat (first | rw [kz_o] | rw [kz_r0] | simp -dsimp -implicitDefEqProofs only [go_sem, Nat.reduceBEq, Nat.reduceAdd, Nat.reduceLeDiff, Nat.reduceMul, Int.reduceLE, Int.reduceLT, Int.reduceBEq, hoo, hne])
  refine dq_intro [(0, []), (1, []), (2, []), (3, []), (4, []), (5, [1, 3]), (6, []), (7, []), (8, []), (9, []), (10, []), (11, [])] (by kernel_rfl) ?_
  repeat (first | rw [kz_o] | rw [kz_r0] | simp -dsimp -implicitDefEqProofs only [go_sem, Nat.reduceBEq, Nat.reduceAdd, Nat.reduceLeDiff, Nat.reduceMul, Int.reduceLE, Int.reduceLT, Int.reduceBEq, hoo, hne])
  refine pw_intro (PI.pw (implGotOf_ok (F := F') (c := streamR e k) hr.1)) ?_
  rintro _ n2 hn2 ⟨⟨f2, rfl⟩, _⟩
  try simp only [hn_push, hn_up, hn_set] at hn2
  first | (rw [kz_r]; refine ⟨by simp -dsimp -implicitDefEqProofs only [go_sem, Nat.reduceBEq, Nat.reduceAdd, Nat.reduceLeDiff, Nat.reduceMul, Int.reduceLE, Int.reduceLT, Int.reduceBEq, hoo, hne], ?_⟩) | skip
  repeat (first | rw [kz_o] | rw [kz_r0] | simp -dsimp -implicitDefEqProofs only [go_sem, Nat.reduceBEq, Nat.reduceAdd, Nat.reduceLeDiff, Nat.reduceMul, Int.reduceLE, Int.reduceLT, Int.reduceBEq, hoo, hne])
  refine pw_intro (implStopped_ok (F := F) (F' := fun j => F' (j + 2)) (m := e.model) (c := (streamR e k).config) hW s1.1 (Nat.le_trans gotI_len hr.1) hr.2.1) ?_
  intro y n3 hn3 hy
  rw [stopR] at hy
  subst hy
  try simp only [hn_push, hn_up, hn_set] at hn3
  first | (rw [kz_r]; refine ⟨by simp -dsimp -implicitDefEqProofs only [go_sem, Nat.reduceBEq, Nat.reduceAdd, Nat.reduceLeDiff, Nat.reduceMul, Int.reduceLE, Int.reduceLT, Int.reduceBEq, hoo, hne], ?_⟩) | skip
  repeat (first | rw [kz_o] | rw [kz_r0] | simp -dsimp -implicitDefEqProofs only [go_sem, Nat.reduceBEq, Nat.reduceAdd, Nat.reduceLeDiff, Nat.reduceMul, Int.reduceLE, Int.reduceLT, Int.reduceBEq, hoo, hne])
  exact ⟨by repeat (first | exact H2.le.refl _ | assumption | apply le_push | refine le_set ?_ (by omega) | refine le_up ?_ (by first | assumption | (simp only [hn_up, hn_push] at *; omega))), .inr ⟨[_, _], rfl⟩, stream_yes h1⟩
theorem specStream_ok {F : Nat → Adr} {e : LEngine} {k : Int} {g : H2} (hs : smallEng e) (hrg : rngEngine e) (hz : smallStops e) : PW Tryz.prog W0 30 [.st (xEngine F e), .raw (.int .i64 k)] g (fun y => y = .tp [.raw (.string (streamT e k)), .raw (.bool (streamB e k))]) := by
  obtain ⟨s1, s2, s3, s4, s5⟩ := id hs
  refine PW.plainK ?_
  refine start (P := Tryz.prog) [[0, 1], [1, 2], [], [1, 2], [6]] (by kernel_rfl) Tryz.func30 rfl (by decide) (by decide +kernel) (rs := [.tmp 4, .tmp 5]) rfl rfl (Nat.le_of_ble_eq_true rfl) ?_
  intro wf
  repeat (first | rw [kz_o] | rw [kz_r0] | simp -dsimp -implicitDefEqProofs only [go_sem, Nat.reduceBEq, Nat.reduceAdd, Nat.reduceLeDiff, Nat.reduceMul, Int.reduceLE, Int.reduceLT, Int.reduceBEq, hoo])
  refine pw_intro (specEngine_ok (F := F) hs hrg) ?_
  rintro _ n1 hn1 rfl
  simp only [hn_push] at hn1
  first | (rw [kz_r]; refine ⟨by simp -dsimp -implicitDefEqProofs only [go_sem, Nat.reduceBEq, Nat.reduceAdd, Nat.reduceLeDiff, Nat.reduceMul, Int.reduceLE, Int.reduceLT, Int.reduceBEq, hoo], ?_⟩) | skip
  cases h1 : engB e
  · repeat (first | rw [kz_o] | rw [kz_r0] | simp -dsimp -implicitDefEqProofs only [go_sem, Nat.reduceBEq, Nat.reduceAdd, Nat.reduceLeDiff, Nat.reduceMul, Int.reduceLE, Int.reduceLT, Int.reduceBEq, hoo])
    exact ⟨by repeat (first | exact H2.le.refl _ | assumption | apply le_push | refine le_up ?_ (by first | assumption | (simp only [hn_up, hn_push] at *; omega))), .inr ⟨[_, _], rfl⟩, stream_no (by rw [streamB, h1]; rfl)⟩
  have w1 : IntKind.i64.wrap ((e.requests.length : Int) - 1) = (e.requests.length : Int) - 1 := by rw [wrap_i64] <;> omega
  repeat (first | rw [kz_o] | rw [kz_r0] | simp -dsimp -implicitDefEqProofs only [go_sem, Nat.reduceBEq, Nat.reduceAdd, Nat.reduceLeDiff, Nat.reduceMul, Int.reduceLE, Int.reduceLT, Int.reduceBEq, hoo, w1])
  refine wz_intro l01In_ok ?_
  rintro _ _ ⟨rfl, rfl⟩
  first | (rw [kz_r]; refine ⟨by simp -dsimp -implicitDefEqProofs only [go_sem, Nat.reduceBEq, Nat.reduceAdd, Nat.reduceLeDiff, Nat.reduceMul, Int.reduceLE, Int.reduceLT, Int.reduceBEq, hoo], ?_⟩) | skip
  cases h2 : inI k 0 ((e.requests.length : Int) - 1)
  · repeat (first | rw [kz_o] | rw [kz_r0] | simp -dsimp -implicitDefEqProofs only [go_sem, Nat.reduceBEq, Nat.reduceAdd, Nat.reduceLeDiff, Nat.reduceMul, Int.reduceLE, Int.reduceLT, Int.reduceBEq, hoo])
    exact ⟨by repeat (first | exact H2.le.refl _ | assumption | apply le_push | refine le_up ?_ (by first | assumption | (simp only [hn_up, hn_push] at *; omega))), .inr ⟨[_, _], rfl⟩, stream_no (by rw [streamB, h1, h2]; rfl)⟩
  have h3 : streamB e k = true := by rw [streamB, h1, h2]; rfl
  have hr0 := inI_tt h2
  obtain ⟨i, rfl⟩ := Int.eq_ofNat_of_zero_le hr0.1
  have q2 : i < e.requests.length := by omega
  have hr := s5 _ q2
  have hR : streamR e (i : Int) = e.requests.getD i default := rfl
  have hyes := stream_yes h3
  rw [hR] at hyes
  have hzz := hz _ (getD_memR q2)
  generalize hrq : e.requests.getD i default = rq at *
  repeat (first | rw [kz_o] | rw [kz_r0] | simp -dsimp -implicitDefEqProofs only [go_sem, Nat.reduceBEq, Nat.reduceAdd, Nat.reduceLeDiff, Nat.reduceMul, Int.reduceLE, Int.reduceLT, Int.reduceBEq, hoo, q2, hrq])
  refine dq_intro [(0, []), (1, []), (2, []), (3, []), (4, []), (5, []), (6, []), (7, []), (8, []), (9, []), (10, []), (11, []), (12, []), (13, [1, 3, 7]), (14, []), (15, []), (16, []), (17, []), (18, []), (19, [])] (by kernel_rfl) ?_
  repeat (first | rw [kz_o] | rw [kz_r0] | simp -dsimp -implicitDefEqProofs only [go_sem, Nat.reduceBEq, Nat.reduceAdd, Nat.reduceLeDiff, Nat.reduceMul, Int.reduceLE, Int.reduceLT, Int.reduceBEq, hoo, q2, hrq])
  refine pw_intro (PI.pw (specGotOf_ok (F := fun j => under (under (F 16) i) j) (c := rq) hr.1)) ?_
  rintro _ n2 hn2 ⟨⟨f2, rfl⟩, _⟩
  try simp only [hn_push, hn_up, hn_set] at hn2
  first | (rw [kz_r]; refine ⟨by simp -dsimp -implicitDefEqProofs only [go_sem, Nat.reduceBEq, Nat.reduceAdd, Nat.reduceLeDiff, Nat.reduceMul, Int.reduceLE, Int.reduceLT, Int.reduceBEq, hoo, q2, hrq], ?_⟩) | skip
  repeat (first | rw [kz_o] | rw [kz_r0] | simp -dsimp -implicitDefEqProofs only [go_sem, Nat.reduceBEq, Nat.reduceAdd, Nat.reduceLeDiff, Nat.reduceMul, Int.reduceLE, Int.reduceLT, Int.reduceBEq, hoo, q2, hrq])
  refine pw_intro (specStopped_ok (F := F) (F' := fun j => under (under (F 16) i) (j + 2)) (m := e.model) (c := rq.config) s1.1 (Nat.le_trans gotI_len hr.1) hr.2.1 hzz) ?_
  intro y n3 hn3 hy
  rw [stopR] at hy
  subst hy
  try simp only [hn_push, hn_up, hn_set] at hn3
  first | (rw [kz_r]; refine ⟨by simp -dsimp -implicitDefEqProofs only [go_sem, Nat.reduceBEq, Nat.reduceAdd, Nat.reduceLeDiff, Nat.reduceMul, Int.reduceLE, Int.reduceLT, Int.reduceBEq, hoo, q2, hrq], ?_⟩) | skip
  repeat (first | rw [kz_o] | rw [kz_r0] | simp -dsimp -implicitDefEqProofs only [go_sem, Nat.reduceBEq, Nat.reduceAdd, Nat.reduceLeDiff, Nat.reduceMul, Int.reduceLE, Int.reduceLT, Int.reduceBEq, hoo])
  exact ⟨by repeat (first | exact H2.le.refl _ | assumption | apply le_push | refine le_up ?_ (by first | assumption | (simp only [hn_up, hn_push] at *; omega))), .inr ⟨[_, _], rfl⟩, hyes⟩
theorem implStream_tree {e : LEngine} {k : Int} {g : H2} {bs : List Nat} {ys : List X} (o : OTs g bs ys (eEngine e)) (hW : Lng W0) (hs : smallEng e) (hr : rngEngine e) (hz : smallStops e) :
    WC2 Tryz.prog W0 31 [.st ys, .raw (.int .i64 k)] g (fun x g' => g.le g' ∧ x = .tp [.raw (.string (streamT e k)), .raw (.bool (streamB e k))]) := by
  obtain ⟨F, hF⟩ := o.lent
  have c1 : PW Tryz.prog W0 31 [.st ys, .raw (.int .i64 k)] g (fun r => r = .tp [.raw (.string (streamT e k)), .raw (.bool (streamB e k))]) := PW.lend (.cons hF (.cons lent_raw .nil)) (implStream_ok (F := F) hW hs hz) (fun y h => by
    rw [h]
    exact .tp fun x hx => by
      simp only [List.mem_cons, List.not_mem_nil, or_false] at hx
      rcases hx with rfl | rfl <;> exact .raw)
  refine WC2.mono c1 ?_
  rintro x g' ⟨h1, h2, h3⟩
  exact ⟨by rw [h1]; exact le_up (H2.le.refl _) h2, h3⟩
theorem specStream_tree {e : LEngine} {k : Int} {g : H2} {bs : List Nat} {ys : List X} (o : OTs g bs ys (eEngine e)) (hW : Lng W0) (hs : smallEng e) (hr : rngEngine e) (hz : smallStops e) :
    WC2 Tryz.prog W0 30 [.st ys, .raw (.int .i64 k)] g (fun x g' => g.le g' ∧ x = .tp [.raw (.string (streamT e k)), .raw (.bool (streamB e k))]) := by
  obtain ⟨F, hF⟩ := o.lent
  have c1 : PW Tryz.prog W0 30 [.st ys, .raw (.int .i64 k)] g (fun r => r = .tp [.raw (.string (streamT e k)), .raw (.bool (streamB e k))]) := PW.lend (.cons hF (.cons lent_raw .nil)) (specStream_ok (F := F) hs hr hz) (fun y h => by
    rw [h]
    exact .tp fun x hx => by
      simp only [List.mem_cons, List.not_mem_nil, or_false] at hx
      rcases hx with rfl | rfl <;> exact .raw)
  refine WC2.mono c1 ?_
  rintro x g' ⟨h1, h2, h3⟩
  exact ⟨by rw [h1]; exact le_up (H2.le.refl _) h2, h3⟩
end Go.Bi
end
section
set_option linter.unusedSimpArgs false
set_option linter.unusedVariables false
set_option maxRecDepth 20000
namespace Go.Bi
open Go.Proofs
open Go.Ai (wrap_i64 wrap_u8)
variable {W0 : World}
theorem FnExactStreamOf_ok {F0 : Nat → Adr} {e : LEngine} {k : Int} {h : H2} (hW : Lng W0) (hf0 : fitEngine e)  (hrg : rngEngine e) : WC2 Tryz.prog W0 7 [.st (xEngine F0 e), .raw (.int .i64 k)] h (fun v h' => v = .raw (.bool true)) := by
  refine start (P := Tryz.prog) [[0, 1], [1, 2], [1, 2, 5], [1, 2, 5], [], [1, 2], [1, 2, 6, 7], [1, 2, 6, 7, 8], [2, 6, 7, 8, 9, 10], [], [2, 8], [], []] (by kernel_rfl) Tryz.func7 rfl (by decide) (by decide +kernel) (rs := [.tmp 4]) rfl rfl (Nat.le_of_ble_eq_true rfl) ?_
  intro wf
  repeat (first | rw [kz_o] | rw [kz_r0] | simp -dsimp -implicitDefEqProofs only [go_sem, Nat.reduceBEq, Nat.reduceAdd, Nat.reduceLeDiff, Nat.reduceMul, Int.reduceLE, Int.reduceLT, Int.reduceBEq])
  refine pw_intro (szEngine_ok hf0 ⟨by omega, by omega⟩) ?_
  rintro _ n1 hn1 ⟨k1, rfl, hk1⟩
  have hm1 := hn1
  try simp only [hn_push, hn_up] at hm1
  repeat (first | rw [kz_o] | rw [kz_r0] | simp -dsimp -implicitDefEqProofs only [go_sem, Nat.reduceBEq, Nat.reduceAdd, Nat.reduceLeDiff, Nat.reduceMul, Int.reduceLE, Int.reduceLT, Int.reduceBEq, hoo])
  refine gz_dec (fun q2 => ?_) (fun q2 => ?_)
  · repeat (first | rw [kz_o] | rw [kz_r0] | simp -dsimp -implicitDefEqProofs only [go_sem, Nat.reduceBEq, Nat.reduceAdd, Nat.reduceLeDiff, Nat.reduceMul, Int.reduceLE, Int.reduceLT, Int.reduceBEq])
    rfl
  have hsz_e : szEngine e ≤ 1048576 := by omega
  have hsm := smallEng_of hsz_e
  have hst := smallStops_of hsz_e
  repeat (first | rw [kz_o] | rw [kz_r0] | simp -dsimp -implicitDefEqProofs only [go_sem, Nat.reduceBEq, Nat.reduceAdd, Nat.reduceLeDiff, Nat.reduceMul, Int.reduceLE, Int.reduceLT, Int.reduceBEq, hoo])
  refine wz_intro (toEngine_ok (by omega)) ?_
  rintro _ g3 ⟨l3, ys3, b3, rfl, o3, bl3⟩
  try simp only [hn_push, hn_up] at bl3
  have nn3 := l3.n
  try simp only [hn_push, hn_up] at nn3
  have LL3 : h.le g3 := H2.le.trans (by repeat (first | exact H2.le.refl _ | apply le_push | refine le_up ?_ (by assumption))) l3
  have ln3 := LL3.n
  have row0 : hg g3 (hn h .mk) .mk = some ⟨17, xEngine F0 e⟩ := (l3.2 (hn h .mk) (by simp only [hn_push, hn_up]; omega)).trans (by simp -dsimp -implicitDefEqProofs only [go_sem, Nat.reduceBEq, Nat.reduceAdd, Nat.reduceLeDiff, Nat.reduceMul, Int.reduceLE, Int.reduceLT, Int.reduceBEq, hoo])
  obtain ⟨b3_3, s3_3, b3_4, s3_4, b3_5, s3_5, b3_6, s3_6, b3_8, s3_8, b3_9, s3_9, b3_12, s3_12, b3_13, s3_13, b3_14, s3_14, b3_15, s3_15, b3_16, s3_16, rfl, rfl, o3_3, o3_4, o3_5, o3_6, o3_8, o3_9, o3_12, o3_13, o3_14, o3_15, o3_16⟩ := invEngine o3
  clear o3
  have bl3_3 := bl3.split.1
  have ce3_3 := OT.cell o3_3
  have bl3_4 := bl3.split.2.1.split.1
  have ce3_4 := OT.cell o3_4
  have bl3_5 := bl3.split.2.1.split.2.1.split.1
  have ce3_5 := OT.cell o3_5
  have bl3_6 := bl3.split.2.1.split.2.1.split.2.1.split.1
  have ce3_6 := OT.cell o3_6
  have bl3_8 := bl3.split.2.1.split.2.1.split.2.1.split.2.1.split.1
  have ce3_8 := OT.cell o3_8
  have bl3_9 := bl3.split.2.1.split.2.1.split.2.1.split.2.1.split.2.1.split.1
  have ce3_9 := OT.cell o3_9
  have bl3_12 := bl3.split.2.1.split.2.1.split.2.1.split.2.1.split.2.1.split.2.1.split.1
  have ce3_12 := OT.cell o3_12
  have bl3_13 := bl3.split.2.1.split.2.1.split.2.1.split.2.1.split.2.1.split.2.1.split.2.1.split.1
  have ce3_13 := OT.cell o3_13
  have bl3_14 := bl3.split.2.1.split.2.1.split.2.1.split.2.1.split.2.1.split.2.1.split.2.1.split.2.1.split.1
  have ce3_14 := OT.cell o3_14
  have bl3_15 := bl3.split.2.1.split.2.1.split.2.1.split.2.1.split.2.1.split.2.1.split.2.1.split.2.1.split.2.1.split.1
  have ce3_15 := OT.cell o3_15
  have bl3_16 := bl3.split.2.1.split.2.1.split.2.1.split.2.1.split.2.1.split.2.1.split.2.1.split.2.1.split.2.1.split.2.1
  have ce3_16 := OT.cell o3_16
  repeat (first | rw [kz_o] | rw [kz_r0] | simp -dsimp -implicitDefEqProofs only [go_sem, Nat.reduceBEq, Nat.reduceAdd, Nat.reduceLeDiff, Nat.reduceMul, Int.reduceLE, Int.reduceLT, Int.reduceBEq, ce3_3, ce3_4, ce3_5, ce3_6, ce3_8, ce3_9, ce3_12, ce3_13, ce3_14, ce3_15, ce3_16, row0, hoo])
  refine wz_intro (specStream_tree (outEngine (c := e) (o3_3.keep (by repeat (first | exact H2.le.refl _ | apply le_push | refine le_up ?_ (by assumption))) (bl3_3.wide (Nat.le_refl _) (by omega))) (o3_4.keep (by repeat (first | exact H2.le.refl _ | apply le_push | refine le_up ?_ (by assumption))) (bl3_4.wide (Nat.le_refl _) (by omega))) (o3_5.keep (by repeat (first | exact H2.le.refl _ | apply le_push | refine le_up ?_ (by assumption))) (bl3_5.wide (Nat.le_refl _) (by omega))) (o3_6.keep (by repeat (first | exact H2.le.refl _ | apply le_push | refine le_up ?_ (by assumption))) (bl3_6.wide (Nat.le_refl _) (by omega))) (o3_8.keep (by repeat (first | exact H2.le.refl _ | apply le_push | refine le_up ?_ (by assumption))) (bl3_8.wide (Nat.le_refl _) (by omega))) (o3_9.keep (by repeat (first | exact H2.le.refl _ | apply le_push | refine le_up ?_ (by assumption))) (bl3_9.wide (Nat.le_refl _) (by omega))) (o3_12.keep (by repeat (first | exact H2.le.refl _ | apply le_push | refine le_up ?_ (by assumption))) (bl3_12.wide (Nat.le_refl _) (by omega))) (o3_13.keep (by repeat (first | exact H2.le.refl _ | apply le_push | refine le_up ?_ (by assumption))) (bl3_13.wide (Nat.le_refl _) (by omega))) (o3_14.keep (by repeat (first | exact H2.le.refl _ | apply le_push | refine le_up ?_ (by assumption))) (bl3_14.wide (Nat.le_refl _) (by omega))) (o3_15.keep (by repeat (first | exact H2.le.refl _ | apply le_push | refine le_up ?_ (by assumption))) (bl3_15.wide (Nat.le_refl _) (by omega))) (o3_16.keep (by repeat (first | exact H2.le.refl _ | apply le_push | refine le_up ?_ (by assumption))) (bl3_16.wide (Nat.le_refl _) (by omega)))) hW hsm hrg hst) ?_
  rintro _ g4 ⟨l4, rfl⟩
  have nn4 := l4.n
  try simp only [hn_push, hn_up] at nn4
  have LL4 : g3.le g4 := H2.le.trans (by repeat (first | exact H2.le.refl _ | apply le_push | refine le_up ?_ (by assumption))) l4
  have ln4 := LL4.n
  replace o3_3 := o3_3.keep LL4 (bl3_3.wide (Nat.le_refl _) (by omega))
  replace o3_4 := o3_4.keep LL4 (bl3_4.wide (Nat.le_refl _) (by omega))
  replace o3_5 := o3_5.keep LL4 (bl3_5.wide (Nat.le_refl _) (by omega))
  replace o3_6 := o3_6.keep LL4 (bl3_6.wide (Nat.le_refl _) (by omega))
  replace o3_8 := o3_8.keep LL4 (bl3_8.wide (Nat.le_refl _) (by omega))
  replace o3_9 := o3_9.keep LL4 (bl3_9.wide (Nat.le_refl _) (by omega))
  replace o3_12 := o3_12.keep LL4 (bl3_12.wide (Nat.le_refl _) (by omega))
  replace o3_13 := o3_13.keep LL4 (bl3_13.wide (Nat.le_refl _) (by omega))
  replace o3_14 := o3_14.keep LL4 (bl3_14.wide (Nat.le_refl _) (by omega))
  replace o3_15 := o3_15.keep LL4 (bl3_15.wide (Nat.le_refl _) (by omega))
  replace o3_16 := o3_16.keep LL4 (bl3_16.wide (Nat.le_refl _) (by omega))
  replace row0 := (LL4.2 (hn h .mk) (by omega)).trans row0
  repeat (first | rw [kz_o] | rw [kz_r0] | simp -dsimp -implicitDefEqProofs only [go_sem, Nat.reduceBEq, Nat.reduceAdd, Nat.reduceLeDiff, Nat.reduceMul, Int.reduceLE, Int.reduceLT, Int.reduceBEq, row0, hoo])
  refine wz_intro (toEngine_ok (by omega)) ?_
  rintro _ g5 ⟨l5, ys5, b5, rfl, o5, bl5⟩
  try simp only [hn_push, hn_up] at bl5
  have nn5 := l5.n
  try simp only [hn_push, hn_up] at nn5
  have LL5 : g4.le g5 := H2.le.trans (by repeat (first | exact H2.le.refl _ | apply le_push | refine le_up ?_ (by assumption))) l5
  have ln5 := LL5.n
  replace row0 := (LL5.2 (hn h .mk) (by omega)).trans row0
  obtain ⟨b5_3, s5_3, b5_4, s5_4, b5_5, s5_5, b5_6, s5_6, b5_8, s5_8, b5_9, s5_9, b5_12, s5_12, b5_13, s5_13, b5_14, s5_14, b5_15, s5_15, b5_16, s5_16, rfl, rfl, o5_3, o5_4, o5_5, o5_6, o5_8, o5_9, o5_12, o5_13, o5_14, o5_15, o5_16⟩ := invEngine o5
  clear o5
  have bl5_3 := bl5.split.1
  have ce5_3 := OT.cell o5_3
  have bl5_4 := bl5.split.2.1.split.1
  have ce5_4 := OT.cell o5_4
  have bl5_5 := bl5.split.2.1.split.2.1.split.1
  have ce5_5 := OT.cell o5_5
  have bl5_6 := bl5.split.2.1.split.2.1.split.2.1.split.1
  have ce5_6 := OT.cell o5_6
  have bl5_8 := bl5.split.2.1.split.2.1.split.2.1.split.2.1.split.1
  have ce5_8 := OT.cell o5_8
  have bl5_9 := bl5.split.2.1.split.2.1.split.2.1.split.2.1.split.2.1.split.1
  have ce5_9 := OT.cell o5_9
  have bl5_12 := bl5.split.2.1.split.2.1.split.2.1.split.2.1.split.2.1.split.2.1.split.1
  have ce5_12 := OT.cell o5_12
  have bl5_13 := bl5.split.2.1.split.2.1.split.2.1.split.2.1.split.2.1.split.2.1.split.2.1.split.1
  have ce5_13 := OT.cell o5_13
  have bl5_14 := bl5.split.2.1.split.2.1.split.2.1.split.2.1.split.2.1.split.2.1.split.2.1.split.2.1.split.1
  have ce5_14 := OT.cell o5_14
  have bl5_15 := bl5.split.2.1.split.2.1.split.2.1.split.2.1.split.2.1.split.2.1.split.2.1.split.2.1.split.2.1.split.1
  have ce5_15 := OT.cell o5_15
  have bl5_16 := bl5.split.2.1.split.2.1.split.2.1.split.2.1.split.2.1.split.2.1.split.2.1.split.2.1.split.2.1.split.2.1
  have ce5_16 := OT.cell o5_16
  have ne6 : ((hn h .mk) == (hn g5 .mk)) = false := by simp; omega
  have nf6 : ((hn g5 .mk) == (hn h .mk)) = false := by simp; omega
  repeat (first | rw [kz_o] | rw [kz_r0] | simp -dsimp -implicitDefEqProofs only [go_sem, Nat.reduceBEq, Nat.reduceAdd, Nat.reduceLeDiff, Nat.reduceMul, Int.reduceLE, Int.reduceLT, Int.reduceBEq, ce5_3, ce5_4, ce5_5, ce5_6, ce5_8, ce5_9, ce5_12, ce5_13, ce5_14, ce5_15, ce5_16, row0, ne6, nf6, hoo])
  refine wz_intro (implStream_tree (outEngine (c := e) (o5_3.keep (by repeat (first | exact H2.le.refl _ | apply le_push | refine le_up ?_ (by assumption))) (bl5_3.wide (Nat.le_refl _) (by omega))) (o5_4.keep (by repeat (first | exact H2.le.refl _ | apply le_push | refine le_up ?_ (by assumption))) (bl5_4.wide (Nat.le_refl _) (by omega))) (o5_5.keep (by repeat (first | exact H2.le.refl _ | apply le_push | refine le_up ?_ (by assumption))) (bl5_5.wide (Nat.le_refl _) (by omega))) (o5_6.keep (by repeat (first | exact H2.le.refl _ | apply le_push | refine le_up ?_ (by assumption))) (bl5_6.wide (Nat.le_refl _) (by omega))) (o5_8.keep (by repeat (first | exact H2.le.refl _ | apply le_push | refine le_up ?_ (by assumption))) (bl5_8.wide (Nat.le_refl _) (by omega))) (o5_9.keep (by repeat (first | exact H2.le.refl _ | apply le_push | refine le_up ?_ (by assumption))) (bl5_9.wide (Nat.le_refl _) (by omega))) (o5_12.keep (by repeat (first | exact H2.le.refl _ | apply le_push | refine le_up ?_ (by assumption))) (bl5_12.wide (Nat.le_refl _) (by omega))) (o5_13.keep (by repeat (first | exact H2.le.refl _ | apply le_push | refine le_up ?_ (by assumption))) (bl5_13.wide (Nat.le_refl _) (by omega))) (o5_14.keep (by repeat (first | exact H2.le.refl _ | apply le_push | refine le_up ?_ (by assumption))) (bl5_14.wide (Nat.le_refl _) (by omega))) (o5_15.keep (by repeat (first | exact H2.le.refl _ | apply le_push | refine le_up ?_ (by assumption))) (bl5_15.wide (Nat.le_refl _) (by omega))) (o5_16.keep (by repeat (first | exact H2.le.refl _ | apply le_push | refine le_up ?_ (by assumption))) (bl5_16.wide (Nat.le_refl _) (by omega)))) hW hsm hrg hst) ?_
  rintro _ g7 ⟨l7, rfl⟩
  have nn7 := l7.n
  try simp only [hn_push, hn_up] at nn7
  have LL7 : g5.le g7 := H2.le.trans (by repeat (first | exact H2.le.refl _ | apply le_push | refine le_up ?_ (by assumption))) l7
  have ln7 := LL7.n
  replace o5_3 := o5_3.keep LL7 (bl5_3.wide (Nat.le_refl _) (by omega))
  replace o5_4 := o5_4.keep LL7 (bl5_4.wide (Nat.le_refl _) (by omega))
  replace o5_5 := o5_5.keep LL7 (bl5_5.wide (Nat.le_refl _) (by omega))
  replace o5_6 := o5_6.keep LL7 (bl5_6.wide (Nat.le_refl _) (by omega))
  replace o5_8 := o5_8.keep LL7 (bl5_8.wide (Nat.le_refl _) (by omega))
  replace o5_9 := o5_9.keep LL7 (bl5_9.wide (Nat.le_refl _) (by omega))
  replace o5_12 := o5_12.keep LL7 (bl5_12.wide (Nat.le_refl _) (by omega))
  replace o5_13 := o5_13.keep LL7 (bl5_13.wide (Nat.le_refl _) (by omega))
  replace o5_14 := o5_14.keep LL7 (bl5_14.wide (Nat.le_refl _) (by omega))
  replace o5_15 := o5_15.keep LL7 (bl5_15.wide (Nat.le_refl _) (by omega))
  replace o5_16 := o5_16.keep LL7 (bl5_16.wide (Nat.le_refl _) (by omega))
  replace row0 := (LL7.2 (hn h .mk) (by omega)).trans row0
  have row1 : hg g7 (hn g5 .mk) .mk = some ⟨17, [.raw (.int .i64 e.model.dim), .raw (.int .i64 e.model.heads), .raw (.int .i64 e.model.context), s5_3, s5_4, s5_5, s5_6, .raw (.int .i64 e.model.head.width), s5_8, s5_9, .raw (.int .i64 e.model.head.mul), .raw (.int .i64 e.model.head.shift), s5_12, s5_13, s5_14, s5_15, s5_16]⟩ := (l7.2 (hn g5 .mk) (by simp only [hn_push, hn_up]; omega)).trans (by simp -dsimp -implicitDefEqProofs only [go_sem, Nat.reduceBEq, Nat.reduceAdd, Nat.reduceLeDiff, Nat.reduceMul, Int.reduceLE, Int.reduceLT, Int.reduceBEq, ne6, nf6, ce5_3, ce5_4, ce5_5, ce5_6, ce5_8, ce5_9, ce5_12, ce5_13, ce5_14, ce5_15, ce5_16, row0, hoo])
  repeat (first | rw [kz_o] | rw [kz_r0] | simp -dsimp -implicitDefEqProofs only [go_sem, Nat.reduceBEq, Nat.reduceAdd, Nat.reduceLeDiff, Nat.reduceMul, Int.reduceLE, Int.reduceLT, Int.reduceBEq, ne6, nf6, ce5_3, ce5_4, ce5_5, ce5_6, ce5_8, ce5_9, ce5_12, ce5_13, ce5_14, ce5_15, ce5_16, row0, row1, hoo])
  refine dq_intro [(0, []), (1, []), (2, [0]), (3, []), (4, [])] (by kernel_rfl) ?_
  repeat (first | rw [kz_o] | rw [kz_r0] | simp -dsimp -implicitDefEqProofs only [go_sem, Nat.reduceBEq, Nat.reduceAdd, Nat.reduceLeDiff, Nat.reduceMul, Int.reduceLE, Int.reduceLT, Int.reduceBEq, ne6, nf6, ce5_3, ce5_4, ce5_5, ce5_6, ce5_8, ce5_9, ce5_12, ce5_13, ce5_14, ce5_15, ce5_16, row0, row1, hoo])
  refine wz_intro (toEngine_ok (by omega)) ?_
  rintro _ g8 ⟨l8, ys8, b8, rfl, o8, bl8⟩
  try simp only [hn_push, hn_up] at bl8
  have nn8 := l8.n
  try simp only [hn_push, hn_up] at nn8
  have LL8 : g7.le g8 := H2.le.trans (by repeat (first | exact H2.le.refl _ | apply le_push | refine le_up ?_ (by assumption))) l8
  have ln8 := LL8.n
  replace o5_3 := o5_3.keep LL8 (bl5_3.wide (Nat.le_refl _) (by omega))
  replace o5_4 := o5_4.keep LL8 (bl5_4.wide (Nat.le_refl _) (by omega))
  replace o5_5 := o5_5.keep LL8 (bl5_5.wide (Nat.le_refl _) (by omega))
  replace o5_6 := o5_6.keep LL8 (bl5_6.wide (Nat.le_refl _) (by omega))
  replace o5_8 := o5_8.keep LL8 (bl5_8.wide (Nat.le_refl _) (by omega))
  replace o5_9 := o5_9.keep LL8 (bl5_9.wide (Nat.le_refl _) (by omega))
  replace o5_12 := o5_12.keep LL8 (bl5_12.wide (Nat.le_refl _) (by omega))
  replace o5_13 := o5_13.keep LL8 (bl5_13.wide (Nat.le_refl _) (by omega))
  replace o5_14 := o5_14.keep LL8 (bl5_14.wide (Nat.le_refl _) (by omega))
  replace o5_15 := o5_15.keep LL8 (bl5_15.wide (Nat.le_refl _) (by omega))
  replace o5_16 := o5_16.keep LL8 (bl5_16.wide (Nat.le_refl _) (by omega))
  replace row0 := (LL8.2 (hn h .mk) (by omega)).trans row0
  replace row1 := (LL8.2 (hn g5 .mk) (by omega)).trans row1
  obtain ⟨b8_3, s8_3, b8_4, s8_4, b8_5, s8_5, b8_6, s8_6, b8_8, s8_8, b8_9, s8_9, b8_12, s8_12, b8_13, s8_13, b8_14, s8_14, b8_15, s8_15, b8_16, s8_16, rfl, rfl, o8_3, o8_4, o8_5, o8_6, o8_8, o8_9, o8_12, o8_13, o8_14, o8_15, o8_16⟩ := invEngine o8
  clear o8
  have bl8_3 := bl8.split.1
  have ce8_3 := OT.cell o8_3
  have bl8_4 := bl8.split.2.1.split.1
  have ce8_4 := OT.cell o8_4
  have bl8_5 := bl8.split.2.1.split.2.1.split.1
  have ce8_5 := OT.cell o8_5
  have bl8_6 := bl8.split.2.1.split.2.1.split.2.1.split.1
  have ce8_6 := OT.cell o8_6
  have bl8_8 := bl8.split.2.1.split.2.1.split.2.1.split.2.1.split.1
  have ce8_8 := OT.cell o8_8
  have bl8_9 := bl8.split.2.1.split.2.1.split.2.1.split.2.1.split.2.1.split.1
  have ce8_9 := OT.cell o8_9
  have bl8_12 := bl8.split.2.1.split.2.1.split.2.1.split.2.1.split.2.1.split.2.1.split.1
  have ce8_12 := OT.cell o8_12
  have bl8_13 := bl8.split.2.1.split.2.1.split.2.1.split.2.1.split.2.1.split.2.1.split.2.1.split.1
  have ce8_13 := OT.cell o8_13
  have bl8_14 := bl8.split.2.1.split.2.1.split.2.1.split.2.1.split.2.1.split.2.1.split.2.1.split.2.1.split.1
  have ce8_14 := OT.cell o8_14
  have bl8_15 := bl8.split.2.1.split.2.1.split.2.1.split.2.1.split.2.1.split.2.1.split.2.1.split.2.1.split.2.1.split.1
  have ce8_15 := OT.cell o8_15
  have bl8_16 := bl8.split.2.1.split.2.1.split.2.1.split.2.1.split.2.1.split.2.1.split.2.1.split.2.1.split.2.1.split.2.1
  have ce8_16 := OT.cell o8_16
  rw [kz_r]
  refine ⟨by simp -dsimp -implicitDefEqProofs only [go_sem, Nat.reduceBEq, Nat.reduceAdd, Nat.reduceLeDiff, Nat.reduceMul, Int.reduceLE, Int.reduceLT, Int.reduceBEq, ne6, nf6, ce5_3, ce5_4, ce5_5, ce5_6, ce5_8, ce5_9, ce5_12, ce5_13, ce5_14, ce5_15, ce5_16, ce8_3, ce8_4, ce8_5, ce8_6, ce8_8, ce8_9, ce8_12, ce8_13, ce8_14, ce8_15, ce8_16, row0, row1, hoo], ?_⟩
  repeat (first | rw [kz_o] | rw [kz_r0] | simp -dsimp -implicitDefEqProofs only [go_sem, Nat.reduceBEq, Nat.reduceAdd, Nat.reduceLeDiff, Nat.reduceMul, Int.reduceLE, Int.reduceLT, Int.reduceBEq, ne6, nf6, ce5_3, ce5_4, ce5_5, ce5_6, ce5_8, ce5_9, ce5_12, ce5_13, ce5_14, ce5_15, ce5_16, ce8_3, ce8_4, ce8_5, ce8_6, ce8_8, ce8_9, ce8_12, ce8_13, ce8_14, ce8_15, ce8_16, row0, row1, hoo])
  refine pw_intro (eqEngine_tree (outEngine (c := e) (o5_3.keep (by repeat (first | exact H2.le.refl _ | apply le_push | refine le_up ?_ (by assumption))) (bl5_3.wide (Nat.le_refl _) (by omega))) (o5_4.keep (by repeat (first | exact H2.le.refl _ | apply le_push | refine le_up ?_ (by assumption))) (bl5_4.wide (Nat.le_refl _) (by omega))) (o5_5.keep (by repeat (first | exact H2.le.refl _ | apply le_push | refine le_up ?_ (by assumption))) (bl5_5.wide (Nat.le_refl _) (by omega))) (o5_6.keep (by repeat (first | exact H2.le.refl _ | apply le_push | refine le_up ?_ (by assumption))) (bl5_6.wide (Nat.le_refl _) (by omega))) (o5_8.keep (by repeat (first | exact H2.le.refl _ | apply le_push | refine le_up ?_ (by assumption))) (bl5_8.wide (Nat.le_refl _) (by omega))) (o5_9.keep (by repeat (first | exact H2.le.refl _ | apply le_push | refine le_up ?_ (by assumption))) (bl5_9.wide (Nat.le_refl _) (by omega))) (o5_12.keep (by repeat (first | exact H2.le.refl _ | apply le_push | refine le_up ?_ (by assumption))) (bl5_12.wide (Nat.le_refl _) (by omega))) (o5_13.keep (by repeat (first | exact H2.le.refl _ | apply le_push | refine le_up ?_ (by assumption))) (bl5_13.wide (Nat.le_refl _) (by omega))) (o5_14.keep (by repeat (first | exact H2.le.refl _ | apply le_push | refine le_up ?_ (by assumption))) (bl5_14.wide (Nat.le_refl _) (by omega))) (o5_15.keep (by repeat (first | exact H2.le.refl _ | apply le_push | refine le_up ?_ (by assumption))) (bl5_15.wide (Nat.le_refl _) (by omega))) (o5_16.keep (by repeat (first | exact H2.le.refl _ | apply le_push | refine le_up ?_ (by assumption))) (bl5_16.wide (Nat.le_refl _) (by omega)))) (outEngine (c := e) (o8_3.keep (by repeat (first | exact H2.le.refl _ | apply le_push | refine le_up ?_ (by assumption))) (bl8_3.wide (Nat.le_refl _) (by omega))) (o8_4.keep (by repeat (first | exact H2.le.refl _ | apply le_push | refine le_up ?_ (by assumption))) (bl8_4.wide (Nat.le_refl _) (by omega))) (o8_5.keep (by repeat (first | exact H2.le.refl _ | apply le_push | refine le_up ?_ (by assumption))) (bl8_5.wide (Nat.le_refl _) (by omega))) (o8_6.keep (by repeat (first | exact H2.le.refl _ | apply le_push | refine le_up ?_ (by assumption))) (bl8_6.wide (Nat.le_refl _) (by omega))) (o8_8.keep (by repeat (first | exact H2.le.refl _ | apply le_push | refine le_up ?_ (by assumption))) (bl8_8.wide (Nat.le_refl _) (by omega))) (o8_9.keep (by repeat (first | exact H2.le.refl _ | apply le_push | refine le_up ?_ (by assumption))) (bl8_9.wide (Nat.le_refl _) (by omega))) (o8_12.keep (by repeat (first | exact H2.le.refl _ | apply le_push | refine le_up ?_ (by assumption))) (bl8_12.wide (Nat.le_refl _) (by omega))) (o8_13.keep (by repeat (first | exact H2.le.refl _ | apply le_push | refine le_up ?_ (by assumption))) (bl8_13.wide (Nat.le_refl _) (by omega))) (o8_14.keep (by repeat (first | exact H2.le.refl _ | apply le_push | refine le_up ?_ (by assumption))) (bl8_14.wide (Nat.le_refl _) (by omega))) (o8_15.keep (by repeat (first | exact H2.le.refl _ | apply le_push | refine le_up ?_ (by assumption))) (bl8_15.wide (Nat.le_refl _) (by omega))) (o8_16.keep (by repeat (first | exact H2.le.refl _ | apply le_push | refine le_up ?_ (by assumption))) (bl8_16.wide (Nat.le_refl _) (by omega)))) hf0) ?_
  rintro _ n9 hn9 rfl
  have hm9 := hn9
  try simp only [hn_push, hn_up] at hm9
  repeat (first | rw [kz_o] | rw [kz_r0] | simp -dsimp -implicitDefEqProofs only [go_sem, Nat.reduceBEq, Nat.reduceAdd, Nat.reduceLeDiff, Nat.reduceMul, Int.reduceLE, Int.reduceLT, Int.reduceBEq, ne6, nf6, ce5_3, ce5_4, ce5_5, ce5_6, ce5_8, ce5_9, ce5_12, ce5_13, ce5_14, ce5_15, ce5_16, row0, row1, hoo])
  rfl
end Go.Bi
end
