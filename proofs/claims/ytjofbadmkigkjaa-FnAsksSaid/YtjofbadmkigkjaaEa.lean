/- Numbers read from bytes: what both sides read. -/
import Derived.Test.YtjofbadmkigkjaaDf
import Derived.Laws.BitsLemmas
set_option linter.unusedSimpArgs false
set_option linter.unusedVariables false
set_option maxRecDepth 20000
namespace Go.Bi
open Go.Proofs
open Go.Ai (wrap_i64 wrap_u64 wrap_u8 Heap)
variable {W0 : World} {P : Program}
def lst (s : ByteArray) : List UInt8 := s.data.toList
theorem lst_len {s : ByteArray} : (lst s).length = s.size := rfl
/-- A number in at most so many bytes, and how many it took. -/
def rv : Nat → List UInt8 → Option (Nat × Nat)
  | 0, _ => none
  | _ + 1, [] => none
  | f + 1, b :: r => if b.toNat < 128 then some (b.toNat, 1) else match rv f r with
    | some (n, j) => some (b.toNat % 128 + 128 * n, j + 1)
    | none => none
theorem rv_last : ∀ {f : Nat} {bs : List UInt8} {n j : Nat}, rv f bs = some (n, j) → 1 ≤ j ∧ j ≤ bs.length ∧ (n = 0 → (bs.getD (j - 1) 0).toNat = 0)
  | 0, _, _, _, h => by cases h
  | _ + 1, [], _, _, h => by cases h
  | f + 1, b :: r, n, j, h => by
    rw [rv] at h
    split at h
    · cases h; exact ⟨Nat.le_refl _, by simp, fun h => by simpa using h⟩
    · split at h
      · rename_i n' j' h'
        cases h
        obtain ⟨h1, h2, h3⟩ := rv_last h'
        refine ⟨by omega, by simpa using h2, fun hn => ?_⟩
        have := h3 (by omega)
        rw [show j' + 1 - 1 = (j' - 1) + 1 by omega]
        simpa using this
      · cases h
theorem rv_var : ∀ {f : Nat} {bs : List UInt8} {n j : Nat}, rv f bs = some (n, j) → (varN n = bs.take j ↔ ¬ (1 < j ∧ (bs.getD (j - 1) 0).toNat = 0))
  | 0, _, _, _, h => by cases h
  | _ + 1, [], _, _, h => by cases h
  | f + 1, b :: r, n, j, h => by
    rw [rv] at h
    split at h
    · rename_i hb
      cases h
      have hv : varN b.toNat = [b] := by rw [varN, if_neg (by omega)]; simp
      simp [hv]
    · rename_i hb
      split at h
      · rename_i n' j' h'
        cases h
        obtain ⟨h1, h2, h3⟩ := rv_last h'
        have ih := rv_var h'
        have hb2 : b.toNat < 256 := b.toNat_lt
        have hlast : ((b :: r).getD (j' + 1 - 1) 0).toNat = (r.getD (j' - 1) 0).toNat := by
          rw [show j' + 1 - 1 = (j' - 1) + 1 by omega]; simp
        rw [hlast]
        by_cases hn : n' = 0
        · subst hn
          have hv : varN (b.toNat % 128 + 128 * 0) = [UInt8.ofNat (b.toNat % 128)] := by rw [varN, if_neg (by omega)]; rfl
          rw [hv]
          constructor
          · intro he
            have hl := congrArg List.length he
            rw [List.length_take, List.length_cons, List.length_cons, List.length_nil] at hl
            omega
          · intro he; exact absurd ⟨by omega, h3 rfl⟩ he
        · have hv : varN (b.toNat % 128 + 128 * n') = b :: varN n' := by
            rw [varN, if_pos (by omega)]
            have e1 : (b.toNat % 128 + 128 * n') % 128 + 128 = b.toNat := by omega
            have e2 : (b.toNat % 128 + 128 * n') / 128 = n' := by omega
            rw [e1, e2]; simp
          rw [hv, List.take_succ_cons]
          constructor
          · intro he
            have he' : varN n' = r.take j' := (List.cons.inj he).2
            have := ih.1 he'
            rintro ⟨_, h0⟩
            by_cases hj : j' = 1
            · subst hj
              match f, r, h' with
              | f + 1, c :: r, h' =>
                rw [rv] at h'
                split at h'
                · cases h'; simp at h0; exact hn h0
                · split at h'
                  · rename_i h''; cases h'; have := (rv_last h'').1; omega
                  · cases h'
            · exact this ⟨by omega, h0⟩
          · intro he
            rw [ih.2 fun ⟨h4, h5⟩ => he ⟨by omega, h5⟩]
      · cases h
theorem rv_bound : ∀ {f : Nat} {bs : List UInt8} {n j : Nat}, rv f bs = some (n, j) → j ≤ f ∧ n < 128 ^ f
  | 0, _, _, _, h => by cases h
  | _ + 1, [], _, _, h => by cases h
  | f + 1, b :: r, n, j, h => by
    rw [rv] at h
    have hp : 1 ≤ 128 ^ f := Nat.one_le_pow _ _ (by omega)
    split at h
    · cases h; exact ⟨by omega, by rw [Nat.pow_succ]; omega⟩
    · split at h
      · rename_i n' j' h'
        cases h
        obtain ⟨h1, h2⟩ := rv_bound h'
        exact ⟨by omega, by rw [Nat.pow_succ]; omega⟩
      · cases h
/-- The number at a place of a text, and the place behind it. -/
def rdV (s : ByteArray) (p : Int) : Option (Nat × Nat) :=
  if inI p 0 s.size = true then match rv 5 ((lst s).drop p.toNat) with
    | some (n, j) => if n ≤ 1000000000 ∧ varN n = ((lst s).drop p.toNat).take j then some (n, p.toNat + j) else none
    | none => none
  else none
def rdR (o : Option (Nat × Nat)) : X := match o with
  | some (n, j) => .tp [.raw (.int .i64 n), .raw (.int .i64 j), .raw (.bool true)]
  | none => .tp [.raw (.int .i64 0), .raw (.int .i64 0), .raw (.bool false)]
theorem lst_drop {s : ByteArray} {i : Nat} (hi : i < s.size) : (lst s).drop i = s[i] :: (lst s).drop (i + 1) := List.drop_eq_getElem_cons (l := lst s) hi
end Go.Bi
