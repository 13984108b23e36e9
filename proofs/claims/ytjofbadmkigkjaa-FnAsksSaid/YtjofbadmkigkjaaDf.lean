/- Both AskTexts on trees. -/
import Derived.Test.YtjofbadmkigkjaaDe
set_option linter.unusedSimpArgs false
set_option linter.unusedVariables false
set_option maxRecDepth 20000
namespace Go.Bi
open Go.Proofs
variable {W0 : World} {P : Program}
theorem hob (b : Bool) : (b == b) = true := by simp
attribute [go_sem] hob
def askS (a : LAsk) : ByteArray := if askOkB a = true then askT a else ⟨#[]⟩
theorem askR_eq {c : LAsk} : askR c = .tp [.raw (.string (askS c)), .raw (.bool (askOkB c))] := by
  unfold askR askS
  cases h : askOkB c <;> rfl
theorem tp_raw {p : Nat → Prop} {a b : Value} : AllB p (.tp [.raw a, .raw b]) := .tp fun x hx => by
  simp only [List.mem_cons, List.not_mem_nil, or_false] at hx
  rcases hx with rfl | rfl <;> exact .raw
theorem implAskText_tree {c : LAsk} {g : H2} {bs : List Nat} {ys : List X} (o : OTs g bs ys (eAsk c)) (hf : fitAsk c) : WC2 Try.prog W0 8 [.st ys] g (fun x g' => g.le g' ∧ x = .tp [.raw (.string (askS c)), .raw (.bool (askOkB c))]) := by
  obtain ⟨F, hF⟩ := o.lent
  have c1 : PW Try.prog W0 8 [.st ys] g (fun r => r = askR c) := PW.lend (.cons hF .nil) (implAskText_ok (F := F) hf) (fun y h => by rw [h, askR_eq]; exact tp_raw)
  refine WC2.mono c1 ?_
  rintro x g' ⟨h1, h2, h3⟩
  exact ⟨by rw [h1]; exact le_up (H2.le.refl _) h2, by rw [h3, askR_eq]⟩
theorem specAskText_tree {c : LAsk} {g : H2} {bs : List Nat} {ys : List X} (o : OTs g bs ys (eAsk c)) (hf : fitAsk c) : WC2 Try.prog W0 9 [.st ys] g (fun x g' => g.le g' ∧ x = .tp [.raw (.string (askS c)), .raw (.bool (askOkB c))]) := by
  obtain ⟨F, hF⟩ := o.lent
  have c1 : PW Try.prog W0 9 [.st ys] g (fun r => r = askR c) := PW.lend (.cons hF .nil) (specAskText_ok (F := F) hf) (fun y h => by rw [h, askR_eq]; exact tp_raw)
  refine WC2.mono c1 ?_
  rintro x g' ⟨h1, h2, h3⟩
  exact ⟨by rw [h1]; exact le_up (H2.le.refl _) h2, by rw [h3, askR_eq]⟩
end Go.Bi
