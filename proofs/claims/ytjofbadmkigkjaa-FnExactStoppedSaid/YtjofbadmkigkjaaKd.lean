/- Where a text is cut: plain. -/
import Derived.Test.YtjofbadmkigkjaaKc
import Derived.Lib.IndexMore
set_option linter.unusedSimpArgs false
set_option linter.unusedVariables false
namespace Go.Bi
open Go.Proofs
/-- Does one text begin at a place of another? -/
def occ (t s : ByteArray) (i : Nat) : Bool := Lib.occAt (lsb t) (lsb s) i
def ixB (t s : ByteArray) : Int := Lib.index t.data.toList s.data.toList
def FindP (t : ByteArray) (ss : List ByteArray) (r : Int) : Prop :=
  (r = -1 ∧ ∀ i, ∀ s ∈ ss, 0 < s.size → occ t s i = false) ∨ ∃ i : Nat, r = (i : Int) ∧ (∃ s ∈ ss, 0 < s.size ∧ occ t s i = true) ∧ ∀ j, j < i → ∀ s ∈ ss, 0 < s.size → occ t s j = false
theorem FindP.one {t : ByteArray} {ss : List ByteArray} {r r' : Int} (h : FindP t ss r) (h' : FindP t ss r') : r = r' := by
  rcases h with ⟨rfl, h⟩ | ⟨i, rfl, ⟨s, hs, h0, h1⟩, h⟩
  · rcases h' with ⟨rfl, h'⟩ | ⟨i, rfl, ⟨s, hs, h0, h1⟩, h'⟩
    · rfl
    · rw [h i s hs h0] at h1; cases h1
  · rcases h' with ⟨rfl, h'⟩ | ⟨i', rfl, ⟨s', hs', h0', h1'⟩, h'⟩
    · rw [h' i s hs h0] at h1; cases h1
    · by_cases hlt : i < i'
      · rw [h' i hlt s hs h0] at h1; cases h1
      · by_cases hgt : i' < i
        · rw [h i' hgt s' hs' h0'] at h1'; cases h1'
        · congr 1; omega
theorem occ_room {t s : ByteArray} {i : Nat} (h0 : 0 < s.size) (h : occ t s i = true) : i + s.size ≤ t.size := by
  have h1 : lsb s <+: (lsb t).drop i := List.isPrefixOf_iff_prefix.1 h
  have h2 := h1.length_le
  rw [List.length_drop] at h2
  have e1 : (lsb s).length = s.size := rfl
  have e2 : (lsb t).length = t.size := rfl
  omega
theorem lsb_extract {s : ByteArray} {a b : Nat} : lsb (s.extract a b) = ((lsb s).drop a).take (b - a) := by
  simp only [lsb, ByteArray.data_extract, Array.toList_extract, List.extract]
theorem occ_eq {t s : ByteArray} {i : Nat} (h : i + s.size ≤ t.size) : occ t s i = ((t.extract i (i + s.size)).toList == s.toList) := by
  have e0 : ∀ {x : ByteArray}, x.toList = lsb x := fun {x} => ByteArray.toList_eq x
  have e1 : lsb (t.extract i (i + s.size)) = ((lsb t).drop i).take s.size := by
    rw [lsb_extract]; congr 1; omega
  rw [e0, e0, e1, Bool.eq_iff_iff, beq_iff_eq]
  show (lsb s).isPrefixOf ((lsb t).drop i) = true ↔ _
  rw [List.isPrefixOf_iff_prefix, List.prefix_iff_eq_take]
  exact eq_comm
def stepF (t : ByteArray) (r : Int) (s : ByteArray) : Int := if 0 < s.size ∧ 0 ≤ ixB t s ∧ (r < 0 ∨ ixB t s < r) then ixB t s else r
def firstP (t : ByteArray) (ss : List ByteArray) : Int := ss.foldl (stepF t) (-1)
theorem firstP_take {t : ByteArray} {ss : List ByteArray} {k : Nat} (hk : k < ss.length) : firstP t (ss.take (k + 1)) = stepF t (firstP t (ss.take k)) (ss.getD k default) := by
  unfold firstP
  rw [List.take_succ_eq_append_getElem hk, List.foldl_append, List.getD_eq_getElem?_getD, List.getElem?_eq_getElem hk]; rfl
theorem find_step {t s : ByteArray} {ss : List ByteArray} {r : Int} (h : FindP t ss r) : FindP t (ss ++ [s]) (stepF t r s) := by
  have all : ∀ {i : Nat}, (∀ u ∈ ss, 0 < u.size → occ t u i = false) → (0 < s.size → occ t s i = false) → ∀ u ∈ ss ++ [s], 0 < u.size → occ t u i = false := fun h1 h2 u hu h0 => by
    rcases List.mem_append.1 hu with hu | hu
    · exact h1 u hu h0
    · simp at hu; subst hu; exact h2 h0
  by_cases h0 : 0 < s.size
  · have far : ∀ j, (lsb t).length < j → occ t s j = false := fun j hj => by
      cases ho : occ t s j
      · rfl
      · have := occ_room h0 ho
        have e : (lsb t).length = t.size := rfl
        omega
    rcases Lib.index_spec (lsb t) (lsb s) with ⟨hi, hno⟩ | ⟨i, hi, hle, ho, hno⟩
    · have hn : ∀ j, occ t s j = false := fun j => by
        by_cases hj : j ≤ (lsb t).length
        · exact hno j hj
        · exact far j (by omega)
      have e : stepF t r s = r := by
        unfold stepF
        rw [if_neg]
        intro hh
        have : ixB t s = -1 := hi
        omega
      rw [e]
      rcases h with ⟨rfl, h⟩ | ⟨i, rfl, ⟨u, hu, hu0, hu1⟩, h⟩
      · exact .inl ⟨rfl, fun i => all (h i) fun _ => hn i⟩
      · exact .inr ⟨i, rfl, ⟨u, List.mem_append_left _ hu, hu0, hu1⟩, fun j hj => all (h j hj) fun _ => hn j⟩
    · have hix : ixB t s = (i : Int) := hi
      have ho' : occ t s i = true := ho
      have hno' : ∀ j, j < i → occ t s j = false := fun j hj => hno j hj
      unfold stepF
      rw [hix]
      rcases h with ⟨rfl, h⟩ | ⟨k, rfl, ⟨u, hu, hu0, hu1⟩, h⟩
      · rw [if_pos ⟨h0, by omega, .inl (by omega)⟩]
        exact .inr ⟨i, rfl, ⟨s, by simp, h0, ho'⟩, fun j hj => all (h j) fun _ => hno' j hj⟩
      · by_cases hik : i < k
        · rw [if_pos ⟨h0, by omega, .inr (by omega)⟩]
          exact .inr ⟨i, rfl, ⟨s, by simp, h0, ho'⟩, fun j hj => all (h j (by omega)) fun _ => hno' j hj⟩
        · rw [if_neg (by omega)]
          exact .inr ⟨k, rfl, ⟨u, List.mem_append_left _ hu, hu0, hu1⟩, fun j hj => all (h j hj) fun _ => hno' j (by omega)⟩
  · have e : stepF t r s = r := by
      unfold stepF
      rw [if_neg (fun hh => h0 hh.1)]
    rw [e]
    rcases h with ⟨rfl, h⟩ | ⟨i, rfl, ⟨u, hu, hu0, hu1⟩, h⟩
    · exact .inl ⟨rfl, fun i => all (h i) fun h => absurd h h0⟩
    · exact .inr ⟨i, rfl, ⟨u, List.mem_append_left _ hu, hu0, hu1⟩, fun j hj => all (h j hj) fun h => absurd h h0⟩
theorem find_first {t : ByteArray} {ss : List ByteArray} : FindP t ss (firstP t ss) := by
  have key : ∀ k, k ≤ ss.length → FindP t (ss.take k) (firstP t (ss.take k)) := by
    intro k
    induction k with
    | zero => intro _; exact .inl ⟨rfl, fun i s hs => by simp at hs⟩
    | succ k ih =>
      intro hk
      rw [firstP_take (show k < ss.length by omega), List.take_succ_eq_append_getElem (show k < ss.length by omega)]
      have := find_step (s := ss[k]) (ih (by omega))
      rw [List.getD_eq_getElem?_getD, List.getElem?_eq_getElem (show k < ss.length by omega)]
      exact this
  have := key ss.length (Nat.le_refl _)
  rwa [List.take_length] at this
theorem first_rng {t : ByteArray} {ss : List ByteArray} : firstP t ss = -1 ∨ (0 ≤ firstP t ss ∧ firstP t ss ≤ t.size) := by
  rcases find_first (t := t) (ss := ss) with ⟨h, _⟩ | ⟨i, h, ⟨s, _, h0, h1⟩, _⟩
  · exact .inl h
  · have := occ_room h0 h1
    right; omega
/-- What Stopped hands back. -/
def decT (l : List LMerge) (ts : List Int) : ByteArray := if tokB l ts = true then decS l ts else ⟨#[]⟩
theorem decR_eq {l : List LMerge} {ts : List Int} : decR l ts = .tp [.raw (.string (decT l ts)), .raw (.bool (tokB l ts))] := by
  unfold decR decT; cases tokB l ts <;> rfl
theorem decT_size {l : List LMerge} {ts : List Int} : (decT l ts).size ≤ 12800 := by
  unfold decT
  split
  · rename_i h
    obtain ⟨⟨l16, hr⟩, h200, hts⟩ := tok_facts h
    have := decS_size hr hts
    omega
  · show 0 ≤ _; omega
def stopT (t : ByteArray) (ss : List ByteArray) : ByteArray := if firstP t ss < 0 then t else t.extract 0 (firstP t ss).toNat
def stopR (t : ByteArray) (ss : List ByteArray) : X := .tp [.raw (.string (stopT t ss)), .raw (.bool (!decide (firstP t ss < 0)))]
end Go.Bi
