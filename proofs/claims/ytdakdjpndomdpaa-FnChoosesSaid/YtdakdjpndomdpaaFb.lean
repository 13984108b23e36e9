/- Passes over blocks of sorted rows. Plain Lean. -/
import Derived.Test.YtdakdjpndomdpaaFa
set_option linter.unusedVariables false
namespace Go.Bi
variable {K : Int → Int}
/-- All blocks of a length are sorted, each with its own numbers. -/
def GoodAll (K : Int → Int) (l : List Int) (bs n : Nat) : Prop := ∀ k, k * bs < n → Good K l (k * bs) (min (k * bs + bs) n)
/-- Half way through a pass: what has been merged, and what has not. -/
def Pass (K : Int → Int) (l : List Int) (bs n j : Nat) : Prop := (∀ i, i < j → Good K l (i * (2 * bs)) (i * (2 * bs) + 2 * bs)) ∧ ∀ i, 2 * j ≤ i → i * bs < n → Good K l (i * bs) (min (i * bs + bs) n)
theorem Pass.start {l : List Int} {bs n : Nat} (h : GoodAll K l bs n) : Pass K l bs n 0 := ⟨fun i hi => by omega, fun i _ hi => h i hi⟩
theorem two_mul_mul {j bs : Nat} : j * (2 * bs) = 2 * j * bs := by rw [Nat.mul_left_comm, ← Nat.mul_assoc]
theorem Pass.pair {l : List Int} {bs n j : Nat} (p : Pass K l bs n j) (h0 : 0 < bs) (hb : j * (2 * bs) + bs < n) : Good K l (j * (2 * bs)) (j * (2 * bs) + bs) ∧ Good K l (j * (2 * bs) + bs) (min (j * (2 * bs) + 2 * bs) n) := by
  have e1 : j * (2 * bs) = 2 * j * bs := two_mul_mul
  have e2 : (2 * j + 1) * bs = j * (2 * bs) + bs := by rw [e1, Nat.succ_mul]
  have g1 := p.2 (2 * j) (Nat.le_refl _) (by omega)
  have g2 := p.2 (2 * j + 1) (by omega) (by omega)
  rw [← e1, Nat.min_eq_left (by omega)] at g1
  rw [e2, show j * (2 * bs) + bs + bs = j * (2 * bs) + 2 * bs by omega] at g2
  exact ⟨g1, g2⟩
theorem Good.rng {l : List Int} {a m b n : Nat} (p : Good K l a m) (q : Good K l m b) (hm : m ≤ b) (hn : b ≤ n) : ∀ i, a ≤ i → i < b → 0 ≤ lat l i ∧ lat l i < n := fun i h1 h2 => by
  by_cases hi : i < m
  · have := p.2.1 i h1 hi; omega
  · have := q.2.1 i (by omega) h2; omega
theorem Pass.step {l l' : List Int} {bs n j : Nat} (p : Pass K l bs n j) (h0 : 0 < bs) (hb : j * (2 * bs) + 2 * bs ≤ n)
    (m : Pre K l (j * (2 * bs)) (j * (2 * bs) + bs) (j * (2 * bs) + 2 * bs) → Mrg K l l' (j * (2 * bs)) (j * (2 * bs) + 2 * bs)) : Pass K l' bs n (j + 1) := by
  have e1 : j * (2 * bs) = 2 * j * bs := two_mul_mul
  have e2 : (2 * j + 1) * bs = j * (2 * bs) + bs := by rw [e1, Nat.succ_mul]
  have g1 := p.2 (2 * j) (Nat.le_refl _) (by omega)
  have g2 := p.2 (2 * j + 1) (by omega) (by omega)
  rw [← e1, Nat.min_eq_left (by omega)] at g1
  rw [e2, Nat.min_eq_left (by omega), show j * (2 * bs) + bs + bs = j * (2 * bs) + 2 * bs by omega] at g2
  have mm := m (g1.pre g2)
  have gm := g1.merge g2 mm (by omega) (by omega)
  refine ⟨fun i hi => ?_, fun i hi hn => ?_⟩
  · by_cases hij : i = j
    · subst hij; exact gm
    · have : (i + 1) * (2 * bs) ≤ j * (2 * bs) := Nat.mul_le_mul_right _ (by omega)
      rw [Nat.succ_mul] at this
      exact (p.1 i (by omega)).out mm.1 (by omega)
  · have : (2 * (j + 1)) * bs ≤ i * bs := Nat.mul_le_mul_right _ hi
    have e3 : 2 * (j + 1) * bs = j * (2 * bs) + 2 * bs := by rw [← two_mul_mul, Nat.succ_mul]
    exact (p.2 i (by omega) hn).out mm.1 (by omega)
/-- The end of a pass: nothing is left behind the pairs of blocks, or one block, or a block and a part. -/
theorem Pass.last {l l' : List Int} {bs n j : Nat} (p : Pass K l bs n j) (h0 : 0 < bs) (hb : n < j * (2 * bs) + 2 * bs) (hj : j * (2 * bs) ≤ n)
    (m : j * (2 * bs) + bs < n → Pre K l (j * (2 * bs)) (j * (2 * bs) + bs) n → Mrg K l l' (j * (2 * bs)) n) (m' : ¬ j * (2 * bs) + bs < n → l' = l) : GoodAll K l' (2 * bs) n := by
  have e1 : j * (2 * bs) = 2 * j * bs := two_mul_mul
  have e2 : (2 * j + 1) * bs = j * (2 * bs) + bs := by rw [e1, Nat.succ_mul]
  have hk : ∀ k, k * (2 * bs) < n → k ≤ j := fun k hk => Decidable.byContradiction fun h => by
    have : (j + 1) * (2 * bs) ≤ k * (2 * bs) := Nat.mul_le_mul_right _ (by omega)
    rw [Nat.succ_mul] at this; omega
  by_cases hc : j * (2 * bs) + bs < n
  · have g1 := p.2 (2 * j) (Nat.le_refl _) (by omega)
    have g2 := p.2 (2 * j + 1) (by omega) (by omega)
    rw [← e1, Nat.min_eq_left (by omega)] at g1
    rw [e2, Nat.min_eq_right (by omega)] at g2
    have mm := m hc (g1.pre g2)
    have gm := g1.merge g2 mm (by omega) (by omega)
    intro k hkn
    by_cases hkj : k = j
    · subst hkj; rw [Nat.min_eq_right (by omega)]; exact gm
    · have hk1 := hk k hkn
      have : (k + 1) * (2 * bs) ≤ j * (2 * bs) := Nat.mul_le_mul_right _ (by omega)
      rw [Nat.succ_mul] at this
      rw [Nat.min_eq_left (by omega)]
      exact (p.1 k (by omega)).out mm.1 (by omega)
  · have := m' hc
    subst this
    intro k hkn
    by_cases hkj : k = j
    · subst hkj
      have g1 := p.2 (2 * k) (Nat.le_refl _) (by omega)
      rw [← e1] at g1
      rw [Nat.min_eq_right (by omega)] at g1 ⊢
      exact g1
    · have hk1 := hk k hkn
      have : (k + 1) * (2 * bs) ≤ j * (2 * bs) := Nat.mul_le_mul_right _ (by omega)
      rw [Nat.succ_mul] at this
      rw [Nat.min_eq_left (by omega)]
      exact p.1 k (by omega)
theorem GoodAll.whole {l : List Int} {bs n : Nat} (h : GoodAll K l bs n) (hb : n ≤ bs) : Good K l 0 n := by
  by_cases h0 : 0 < n
  · have := h 0 (by omega)
    rw [Nat.zero_mul, Nat.zero_add, Nat.min_eq_right hb] at this; exact this
  · have : n = 0 := by omega
    subst this
    exact ⟨fun i j h1 h2 h3 => by omega, fun i h1 h2 => by omega, fun v h1 h2 => by omega⟩
end Go.Bi
