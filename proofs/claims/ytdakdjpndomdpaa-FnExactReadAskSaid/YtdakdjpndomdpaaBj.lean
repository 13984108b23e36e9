/- Deep values, part 10: loops with more than one way out that go on alike. Nothing about the program stands here. -/
import Derived.Test.YtdakdjpndomdpaaBi9
set_option linter.unusedVariables false
set_option linter.unusedSimpArgs false
namespace Go.Bi
open Go.Ai (Hold guarded gate)
variable {P : Program} {W0 : World} {D : Nat → Option (List Nat)} {e : E2} {g : H2} {Q : Q2} {K : KT}
theorem guarded_mono {o : Option Bool} {A B A' B' : Prop} (h : guarded o A B) (ha : A → A') (hb : B → B') : guarded o A' B' := by
  unfold guarded at *
  cases o with
  | none => exact h
  | some b => exact ⟨fun hb' => ha (h.1 hb'), fun hb' => hb (h.2 hb')⟩
theorem opO_mono {o : Op} {K K' : X → H2 → Prop} (h : opO2 P W0 e g o K) (hk : ∀ v g, K v g → K' v g) : opO2 P W0 e g o K' := by
  unfold opO2 at *
  split at h
  · exact WC2.mono h hk
  · unfold thenX at *
    split at h
    · exact hk _ _ h
    · cases h
theorem vcO_mono {ops : List Oper} {Q Q' : Q2} (hQ : ∀ x e g, Q x e g → Q' x e g) : ∀ (l : List Oper) (e : E2) (g : H2), vcO2 P W0 ops l e g Q → vcO2 P W0 ops l e g Q'
  | [], e, g, h => hQ _ _ _ h
  | o :: l, e, g, h => guarded_mono h (fun h => opO_mono h fun v g h => vcO_mono hQ l _ g h) (fun h => vcO_mono hQ l _ g h)
theorem runX_mono {ops : List Oper} {Q Q' : Q2} (hQ : ∀ x e g, Q x e g → Q' x e g) : ∀ (l : List (Nat × List Nat)) (e : E2) (g : H2), runX P W0 ops l e g Q → runX P W0 ops l e g Q'
  | [], e, g, h => hQ _ _ _ h
  | (i, pd) :: l, e, g, h => by
    simp only [runX] at h ⊢
    split at h
    · cases h
    · exact guarded_mono h (fun h => opO_mono h fun v g h => ⟨h.1, runX_mono hQ l _ g h.2⟩) (fun h => runX_mono hQ l _ g h)
theorem vcC_mono : ∀ (c : Code) {Q Q' : Q2}, (∀ x e g, Q x e g → Q' x e g) → ∀ (e : E2) (g : H2), vcC2 P W0 D c e g Q → vcC2 P W0 D c e g Q'
  | .skip, _, _, hQ, e, g, h => hQ _ _ _ h
  | .region id ops false, _, _, hQ, e, g, h => vcO_mono hQ _ _ _ h
  | .region id ops true, _, _, hQ, e, g, ⟨p, h1, h2⟩ => ⟨p, h1, runX_mono hQ _ _ _ h2⟩
  | .seq a b, _, _, hQ, e, g, h => vcC_mono a (fun x e g hx => by
      cases x with
      | normal => exact vcC_mono b hQ e g hx
      | ret => exact hQ _ _ _ hx
      | exit j => exact hQ _ _ _ hx) e g h
  | .cond c t f, _, _, hQ, e, g, h => by
    simp only [vcC2, condX] at h ⊢
    split at h
    · exact ⟨fun hb => vcC_mono t hQ e g (h.1 hb), fun hb => vcC_mono f hQ e g (h.2 hb)⟩
    · cases h
  | .block id b, _, _, hQ, e, g, h => vcC_mono b (fun x e g hx => by
      cases x with
      | normal => exact hQ _ _ _ hx
      | ret => exact hQ _ _ _ hx
      | exit j =>
        simp only [blockQ2] at hx ⊢
        split at hx
        · rename_i hj; rw [if_pos hj]; exact hQ _ _ _ hx
        · rename_i hj; rw [if_neg hj]; exact hQ _ _ _ hx) e g h
  | .loop b, _, _, hQ, e, g, ⟨I, n, h1, h2⟩ => ⟨I, n, h1, fun n e g hI => vcC_mono b (fun x e g hx => by
      cases x with
      | normal => exact hx
      | ret => exact hQ _ _ _ hx
      | exit j => exact hQ _ _ _ hx) e g (h2 n e g hI)⟩
  | .exit id, _, _, hQ, e, g, h => hQ _ _ _ h
  | .ret, _, _, hQ, e, g, h => hQ _ _ _ h
  | .rangeFunc .., _, _, _, _, _, h => h
  | .scope .., _, _, _, _, _, h => h
  | .label .., _, _, _, _, _, h => h
  | .goto .., _, _, _, _, _, h => h
  | .refuse .., _, _, _, _, _, h => h
/-- What the ways out of a loop must meet. -/
def joinQ (J : E2 → H2 → Prop) (j : Nat) (Q : Q2) : Q2
  | .normal, e, g => Q .normal e g
  | .ret, e, g => Q .ret e g
  | .exit i, e, g => (i = j ∧ J e g) ∨ Q (.exit i) e g
def outz (J : E2 → H2 → Prop) (e : E2) (g : H2) (_ : Hold (J, e, g)) : Prop := J e g
theorem joinQ_n {J : E2 → H2 → Prop} {j : Nat} : qz (joinQ J j Q) .normal e g .mk = qz Q .normal e g .mk := rfl
theorem joinQ_r {J : E2 → H2 → Prop} {j : Nat} : qz (joinQ J j Q) .ret e g .mk = qz Q .ret e g .mk := rfl
theorem joinQ_out {J : E2 → H2 → Prop} {j : Nat} (h : J e g) : qz (joinQ J j Q) (.exit j) e g .mk := .inl ⟨rfl, h⟩
theorem lz_join {b : Code} (j : Nat) (ks : List Nat) (I : Nat → E2 → H2 → Prop) (J : E2 → H2 → Prop) (n : Nat) (h0 : I n e g)
    (hr : ∀ n e' g, samez ks e e' → I n e' g → cz P W0 D b e' g (loopQ2 (fun m e'' g => samez ks e e'' ∧ I m e'' g) n (joinQ (fun e'' g => samez ks e e'' ∧ J e'' g) j Q)) .mk)
    (hj : ∀ e' g, samez ks e e' → J e' g → qz Q (.exit j) e' g .mk) : lz P W0 D b e g Q .mk := by
  refine lz_intro (fun m e'' g => samez ks e e'' ∧ I m e'' g) n ⟨fun _ _ => rfl, h0⟩ fun n e' g ⟨h1, h2⟩ => ?_
  refine vcC_mono b (fun x e' g hx => ?_) e' g (hr n e' g h1 h2)
  cases x with
  | normal => exact hx
  | ret => exact hx
  | exit i =>
    rcases hx with ⟨rfl, h3, h4⟩ | hx
    · exact hj e' g h3 h4
    · exact hx
theorem out_keep {ks : List Nat} {J : E2 → H2 → Prop} {e0 : E2} {j : Nat} (hs : samez ks e0 e) (hi : J e g) : qz (joinQ (fun e'' g => samez ks e0 e'' ∧ J e'' g) j Q) (.exit j) e g .mk := joinQ_out ⟨hs, hi⟩
attribute [go_sem] joinQ_n joinQ_r
/-- What the end of a piece of code must meet. -/
def midQ (J : E2 → H2 → Prop) (Q : Q2) : Q2
  | .normal, e, g => J e g
  | .ret, e, g => Q .ret e g
  | .exit i, e, g => Q (.exit i) e g
def jz (J : E2 → H2 → Prop) (e : E2) (g : H2) (_ : Hold (J, e, g)) : Prop := J e g
theorem midQ_n {J : E2 → H2 → Prop} : qz (midQ J Q) .normal e g .mk = jz J e g .mk := rfl
theorem midQ_r {J : E2 → H2 → Prop} : qz (midQ J Q) .ret e g .mk = qz Q .ret e g .mk := rfl
theorem midQ_x {J : E2 → H2 → Prop} {i : Nat} : qz (midQ J Q) (.exit i) e g .mk = qz Q (.exit i) e g .mk := rfl
theorem cz_mid {c : Code} (ks : List Nat) (J : E2 → H2 → Prop) (h : cz P W0 D c e g (midQ (fun e'' g => samez ks e e'' ∧ J e'' g) Q) .mk)
    (hj : ∀ e' g, samez ks e e' → J e' g → qz Q .normal e' g .mk) : cz P W0 D c e g Q .mk := by
  refine vcC_mono c (fun x e' g hx => ?_) e g h
  cases x with
  | normal => exact hj e' g hx.1 hx.2
  | ret => exact hx
  | exit i => exact hx
theorem jz_keep {ks : List Nat} {J : E2 → H2 → Prop} {e0 : E2} (hs : samez ks e0 e) (hi : J e g) : jz (fun e'' g => samez ks e0 e'' ∧ J e'' g) e g .mk := ⟨hs, hi⟩
attribute [go_sem] midQ_n midQ_r midQ_x
end Go.Bi
