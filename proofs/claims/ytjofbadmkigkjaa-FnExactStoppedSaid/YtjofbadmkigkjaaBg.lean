/- Walks of what the laws use to measure, copy, compare, mark and look again at structs (Config:tree, Table:tree, Request:tree, Ask:tree). -/
import Derived.Test.YtjofbadmkigkjaaBf
set_option linter.unusedSimpArgs false
set_option linter.unusedVariables false
set_option maxRecDepth 20000
namespace Go.Bi
open Go.Proofs
open Go.Ai (wrap_i64 wrap_u64 wrap_u8)
variable {W0 : World}
theorem eqIntS_tree {g : H2} {b b' : List Nat} {x x' : X} {zs : List Int} (o : OT g b x (.l 1 (ints zs))) (o' : OT g b' x' (.l 1 (ints zs))) (hn0 : zs.length ≤ 9223372036854775807) : PW Try.prog W0 24 [x, x'] g (fun y => y = .raw (.bool true)) := by
  obtain ⟨f, hf⟩ := o.lent
  obtain ⟨f', hf'⟩ := o'.lent
  exact PW.lend (.cons hf (.cons hf' .nil)) (eqIntS_pw hn0) (fun y h => by subst h; exact .raw)
theorem eqConfig_tree {g : H2} {c : LConfig} {bs bs' : List Nat} {ys ys' : List X} (o : OTs g bs ys (eConfig c)) (o' : OTs g bs' ys' (eConfig c)) (hf : fitConfig c) : PW Try.prog W0 23 [.st ys, .st ys'] g (fun y => y = .raw (.bool true)) := by
  obtain ⟨F, hF⟩ := o.lent
  obtain ⟨F', hF'⟩ := o'.lent
  exact PW.lend (.cons hF (.cons hF' .nil)) (eqConfig_ok (F := F) (F' := F') hf) (fun y h => by subst h; exact .raw)
theorem eqTable_tree {g : H2} {c : LTable} {bs bs' : List Nat} {ys ys' : List X} (o : OTs g bs ys (eTable c)) (o' : OTs g bs' ys' (eTable c)) (hf : fitTable c) : PW Try.prog W0 139 [.st ys, .st ys'] g (fun y => y = .raw (.bool true)) := by
  obtain ⟨F, hF⟩ := o.lent
  obtain ⟨F', hF'⟩ := o'.lent
  exact PW.lend (.cons hF (.cons hF' .nil)) (eqTable_ok (F := F) (F' := F') hf) (fun y h => by subst h; exact .raw)

theorem eqRequest_tree {g : H2} {c : LRequest} {bs bs' : List Nat} {ys ys' : List X} (o : OTs g bs ys (eRequest c)) (o' : OTs g bs' ys' (eRequest c)) (hf : fitRequest c) : PW Try.prog W0 116 [.st ys, .st ys'] g (fun y => y = .raw (.bool true)) := by
  obtain ⟨F, hF⟩ := o.lent
  obtain ⟨F', hF'⟩ := o'.lent
  exact PW.lend (.cons hF (.cons hF' .nil)) (eqRequest_ok (F := F) (F' := F') hf) (fun y h => by subst h; exact .raw)

end Go.Bi
