/- Walks of what the laws use to measure, copy, compare, mark and look again at structs (Engine:tree). -/
import Derived.Test.YtjofbadmkigkjaaHg
import Derived.Test.YtjofbadmkigkjaaBg
set_option linter.unusedSimpArgs false
set_option linter.unusedVariables false
set_option maxRecDepth 20000
namespace Go.Bi
open Go.Proofs
open Go.Ai (wrap_i64 wrap_u64 wrap_u8)
variable {W0 : World}
theorem eqEngine_tree {g : H2} {c : LEngine} {bs bs' : List Nat} {ys ys' : List X} (o : OTs g bs ys (eEngine c)) (o' : OTs g bs' ys' (eEngine c)) (hf : fitEngine c) : PW Try.prog W0 29 [.st ys, .st ys'] g (fun y => y = .raw (.bool true)) := by
  obtain ⟨F, hF⟩ := o.lent
  obtain ⟨F', hF'⟩ := o'.lent
  exact PW.lend (.cons hF (.cons hF' .nil)) (eqEngine_ok (F := F) (F' := F') hf) (fun y h => by subst h; exact .raw)

theorem implAdmit_tree {e : LEngine} {p : List Int} {c : LConfig} {g : H2} {bs bs' bs2 : List Nat} {ys ys2 : List X} {y : X} (o : OTs g bs ys (eEngine e)) (o' : OT g bs' y (.l 1 (ints p))) (o2 : OTs g bs2 ys2 (eConfig c)) (hm : e.model.merges.length ≤ 1048576) (hp : p.length ≤ 1048576) (hc : c.stops.length ≤ 9223372036854775807) :
    WC2 Try.prog W0 28 [.st ys, y, .st ys2] g (fun x g' => g.le g' ∧ x = .raw (.int .i64 (admitI e p c))) := by
  obtain ⟨F, hF⟩ := o.lent
  obtain ⟨f, hf⟩ := o'.lent
  obtain ⟨F', hF'⟩ := o2.lent
  have c1 : PW Try.prog W0 28 [.st ys, y, .st ys2] g (fun r => r = .raw (.int .i64 (admitI e p c))) := PW.lend (.cons hF (.cons hf (.cons hF' .nil))) (implAdmit_ok (F := F) (F' := F') hm hp hc) (fun y h => by rw [h]; exact .raw)
  refine WC2.mono c1 ?_
  rintro x g' ⟨h1, h2, h3⟩
  exact ⟨by rw [h1]; exact le_up (H2.le.refl _) h2, h3⟩
theorem specAdmit_tree {e : LEngine} {p : List Int} {c : LConfig} {g : H2} {bs bs' bs2 : List Nat} {ys ys2 : List X} {y : X} (o : OTs g bs ys (eEngine e)) (o' : OT g bs' y (.l 1 (ints p))) (o2 : OTs g bs2 ys2 (eConfig c)) (hm : e.model.merges.length ≤ 1048576) (hp : p.length ≤ 1048576) (hc : c.stops.length ≤ 9223372036854775807) :
    WC2 Try.prog W0 26 [.st ys, y, .st ys2] g (fun x g' => g.le g' ∧ x = .raw (.int .i64 (admitI e p c))) := by
  obtain ⟨F, hF⟩ := o.lent
  obtain ⟨f, hf⟩ := o'.lent
  obtain ⟨F', hF'⟩ := o2.lent
  have c1 : PW Try.prog W0 26 [.st ys, y, .st ys2] g (fun r => r = .raw (.int .i64 (admitI e p c))) := PW.lend (.cons hF (.cons hf (.cons hF' .nil))) (specAdmit_ok (F := F) (F' := F') hm hp hc) (fun y h => by rw [h]; exact .raw)
  refine WC2.mono c1 ?_
  rintro x g' ⟨h1, h2, h3⟩
  exact ⟨by rw [h1]; exact le_up (H2.le.refl _) h2, h3⟩
end Go.Bi
