/- What is read goes as far as it is long when it is written again; reading on does not mend what is bad. -/
import Derived.Test.YtjofbadmkigkjaaEf
set_option linter.unusedSimpArgs false
set_option linter.unusedVariables false
set_option maxRecDepth 20000
namespace Go.Bi
open Go.Proofs
theorem one_adv {s : ByteArray} {r : Rd} (h : (oneP s r).2.bad = false) : r.bad = false ∧ (oneP s r).2.p = r.p + 1 := by
  unfold oneP at *
  split at h
  · cases h
  · rename_i h1
    rw [if_neg h1]
    have : r.bad = false := by
      cases hb : r.bad
      · rfl
      · rw [hb] at h1; simp at h1
    exact ⟨this, rfl⟩
theorem num_adv {s : ByteArray} {r : Rd} (h : (numP s r).2.bad = false) : r.bad = false ∧ (numP s r).2.p = r.p + (varT (numP s r).1.toNat).size := by
  unfold numP at *
  split at h
  · rename_i n q hv hb
    simp only [hv, hb]
    refine ⟨trivial, ?_⟩
    have hle := rdV_le hv
    rw [rdV] at hv
    split at hv
    · split at hv
      · rename_i n' j' h'
        split at hv
        · rename_i hh
          cases hv
          have h2 := (rv_last h').2.1
          have h3 : (varT n).size = (varN n).length := rfl
          simp only [Int.toNat_natCast]
          rw [h3, hh.2, List.length_take]
          simp only [Int.toNat_natCast] at h2 ⊢
          omega
        · cases hv
      · cases hv
    · cases hv
  · cases h
theorem short_adv {s : ByteArray} {r : Rd} (h : (shortP s r).2.bad = false) : r.bad = false ∧ (shortP s r).2.p = r.p + (shortT (shortP s r).1).size := by
  unfold shortP at *
  split at h
  · rename_i t q hv hb
    simp only [hv, hb]
    refine ⟨trivial, ?_⟩
    rw [rdS] at hv
    split at hv
    · rename_i n q' hv'
      have hle := rdV_le hv'
      have hN : numP s r = ((n : Int), ⟨q', false⟩) := by simp only [numP, hv', hb]
      have ha := num_adv (s := s) (r := r) (by rw [hN])
      rw [hN] at ha
      simp only [Int.toNat_natCast] at ha
      split at hv
      · rename_i hh
        cases hv
        have hsz : (s.extract q' (q' + n)).size = n := by rw [ByteArray.size_extract]; omega
        rw [shortT, ByteArray.size_append, hsz]
        omega
      · cases hv
    · cases hv
  · cases h
theorem shorts_adv {s : ByteArray} {r : Rd} : ∀ {k : Nat}, (shorts s k r).2.bad = false → r.bad = false ∧ ∀ base : ByteArray, ((shorts s k r).1.foldl (fun s x => s ++ shortT x) base).size + r.p = base.size + (shorts s k r).2.p
  | 0, h => ⟨h, fun base => rfl⟩
  | k + 1, h => by
    obtain ⟨h1, h2⟩ := short_adv (s := s) (r := (shorts s k r).2) h
    obtain ⟨h3, h4⟩ := shorts_adv h1
    refine ⟨h3, fun base => ?_⟩
    have h5 := h4 base
    simp only [shorts, List.foldl_append, List.foldl_cons, List.foldl_nil, ByteArray.size_append]
    rw [h2]; omega
theorem ones_adv {s : ByteArray} {r : Rd} : ∀ {k : Nat}, (ones s k r).2.bad = false → r.bad = false ∧ (ones s k r).2.p = r.p + k
  | 0, h => ⟨h, rfl⟩
  | k + 1, h => by
    obtain ⟨h1, h2⟩ := one_adv (s := s) (r := (ones s k r).2) h
    obtain ⟨h3, h4⟩ := ones_adv h1
    refine ⟨h3, ?_⟩
    simp only [ones]
    rw [h2]; omega
theorem shorts_bad {s : ByteArray} {r : Rd} {k : Nat} (h : (shorts s k r).2.bad = true) : ∀ {n : Nat}, k ≤ n → (shorts s n r).2.bad = true := by
  intro n hn
  induction n with
  | zero => have : k = 0 := by omega
            subst this; exact h
  | succ n ih =>
    by_cases hk : k = n + 1
    · subst hk; exact h
    · have := ih (by omega)
      cases hb : (shorts s (n + 1) r).2.bad
      · have := (short_adv (s := s) (r := (shorts s n r).2) hb).1
        simp_all
      · rfl
theorem ones_bad {s : ByteArray} {r : Rd} {k : Nat} (h : (ones s k r).2.bad = true) : ∀ {n : Nat}, k ≤ n → (ones s n r).2.bad = true := by
  intro n hn
  induction n with
  | zero => have : k = 0 := by omega
            subst this; exact h
  | succ n ih =>
    by_cases hk : k = n + 1
    · subst hk; exact h
    · have := ih (by omega)
      cases hb : (ones s (n + 1) r).2.bad
      · have := (one_adv (s := s) (r := (ones s n r).2) hb).1
        simp_all
      · rfl
theorem foldl_bytes {l : List Int} : ∀ {base : ByteArray}, (l.foldl (fun s n => s ++ byteT n) base).size = base.size + l.length := by
  induction l with
  | nil => intro base; rfl
  | cons n l ih => intro base; simp only [List.foldl_cons, List.length_cons]; rw [ih, ByteArray.size_append, byteT_size]; omega
theorem ask_adv {s : ByteArray} (hb : (ask0 s).2.bad = false) (hok : askOkB (ask0 s).1 = true) : (askS (ask0 s).1).size = (ask0 s).2.p := by
  rw [askS, if_pos hok]
  clear hok
  unfold ask0 at *
  generalize ho : oneP s ⟨0, false⟩ = q0 at *
  obtain ⟨op, r1⟩ := q0
  have h0 : r1.bad = false → r1.p = 1 := fun h => by
    have := one_adv (s := s) (r := ⟨0, false⟩) (by rw [ho]; exact h)
    rw [ho] at this; simpa using this.2
  simp only at hb ⊢
  unfold askP at *
  by_cases p1 : op = 1
  · simp only [if_pos p1, ask1P] at *
    obtain ⟨a0, a1⟩ := shorts_adv hb
    obtain ⟨b0, b1⟩ := one_adv a0
    obtain ⟨c0, c1⟩ := one_adv b0
    obtain ⟨d0, d1⟩ := num_adv c0
    obtain ⟨e0, e1⟩ := one_adv d0
    obtain ⟨f0, f1⟩ := short_adv e0
    have g1 := h0 f0
    rw [askT]
    simp only [if_pos p1]
    have := a1 (byteT 1 ++ ((((shortT (shortP s r1).1 ++ byteT (oneP s (shortP s r1).2).1) ++ varT (numP s (oneP s (shortP s r1).2).2).1.toNat) ++ byteT (oneP s (numP s (oneP s (shortP s r1).2).2).2).1) ++ byteT ((shorts s (oneP s (oneP s (numP s (oneP s (shortP s r1).2).2).2).2).1.toNat (oneP s (oneP s (numP s (oneP s (shortP s r1).2).2).2).2).2).1.length)))
    simp only [ByteArray.size_append, byteT_size] at this
    omega
  by_cases p2 : op = 2
  · simp only [if_neg p1, if_pos p2, ask2P] at *
    obtain ⟨b0, b1⟩ := one_adv hb
    obtain ⟨c0, c1⟩ := num_adv b0
    obtain ⟨d0, d1⟩ := one_adv c0
    have g1 := h0 d0
    rw [askT]
    simp only [if_neg p1, if_pos p2, ByteArray.size_append, byteT_size]
    omega
  by_cases p5 : op = 5
  · simp only [if_neg p1, if_neg p2, if_pos p5] at *
    obtain ⟨b0, b1⟩ := ones_adv hb
    obtain ⟨c0, c1⟩ := one_adv b0
    have g1 := h0 c0
    rw [askT]
    simp only [if_neg p1, if_neg p2, if_pos p5, foldl_bytes, ByteArray.size_append, byteT_size, ones_len]
    omega
  · simp only [if_neg p1, if_neg p2, if_neg p5] at *
    obtain ⟨c0, c1⟩ := one_adv hb
    have g1 := h0 c0
    rw [askT]
    simp only [if_neg p1, if_neg p2, if_neg p5, ByteArray.size_append, byteT_size]
    omega
/-- The reference's test: it does not ask where the reader is. -/
def okS (s : ByteArray) (q : LAsk × Rd) : Bool := !q.2.bad && (askOkB q.1 && ((askS q.1).toList == s.toList))
theorem okS_eq {s : ByteArray} : okQ s (ask0 s) = okS s (ask0 s) := by
  have ha := ask_adv (s := s)
  unfold okQ okS
  generalize ask0 s = q at *
  cases hb : q.2.bad
  · cases hk : askOkB q.1
    · simp
    · cases he : ((askS q.1).toList == s.toList)
      · simp
      · have h1 := ha hb hk
        have h2 : (askS q.1).size = s.size := by
          have : (askS q.1).toList = s.toList := by simpa using he
          rw [toList_lst, toList_lst] at this
          have := congrArg List.length this
          simpa [lst_len] using this
        have h3 : ((q.2.p : Int) = (s.size : Int)) := by omega
        simp [h3]
  · simp
end Go.Bi
