/- Walks of what the laws use to measure, copy, compare, mark and look again at structs (Config:tree, Table:tree, Request:tree, Ask:tree). -/
import Derived.Test.YtdakdjpndomdpaaBf
set_option linter.unusedSimpArgs false
set_option linter.unusedVariables false
set_option maxRecDepth 20000
namespace Go.Bi
open Go.Proofs
open Go.Ai (wrap_i64 wrap_u64 wrap_u8)
variable {W0 : World}
theorem eqIntS_tree {g : H2} {b b' : List Nat} {x x' : X} {zs : List Int} (o : OT g b x (.l 1 (ints zs))) (o' : OT g b' x' (.l 1 (ints zs))) (hn0 : zs.length ≤ 9223372036854775807) : PW Try.prog W0 29 [x, x'] g (fun y => y = .raw (.bool true)) := by
  obtain ⟨f, hf⟩ := o.lent
  obtain ⟨f', hf'⟩ := o'.lent
  exact PW.lend (.cons hf (.cons hf' .nil)) (eqIntS_pw hn0) (fun y h => by subst h; exact .raw)
theorem heldIntS_tree {g : H2} {b : List Nat} {x : X} {zs : List Int} {k k' : Int} (o : OT g b x (.l 1 (ints zs))) (hd : ∀ f g, PW Try.prog W0 31 [.sl f 1 (ints zs), .raw (.int .i64 k)] g (fun y => y = .raw (.int .i64 k'))) : PW Try.prog W0 31 [x, .raw (.int .i64 k)] g (fun y => y = .raw (.int .i64 k')) := by
  obtain ⟨f, hf⟩ := o.lent
  exact PW.lend (.cons hf (.cons lent_raw .nil)) (hd f _) (fun y h => by subst h; exact .raw)
theorem eqConfig_tree {g : H2} {c : LConfig} {bs bs' : List Nat} {ys ys' : List X} (o : OTs g bs ys (eConfig c)) (o' : OTs g bs' ys' (eConfig c)) (hf : fitConfig c) : PW Try.prog W0 25 [.st ys, .st ys'] g (fun y => y = .raw (.bool true)) := by
  obtain ⟨F, hF⟩ := o.lent
  obtain ⟨F', hF'⟩ := o'.lent
  exact PW.lend (.cons hF (.cons hF' .nil)) (eqConfig_ok (F := F) (F' := F') hf) (fun y h => by subst h; exact .raw)
theorem heldConfig_tree {g : H2} {c : LConfig} {bs : List Nat} {ys : List X} {k k' : Int} (o : OTs g bs ys (eConfig c)) (hd : ∀ F g, PW Try.prog W0 97 [.st (xConfig F c), .raw (.int .i64 k)] g (fun y => y = .raw (.int .i64 k'))) : PW Try.prog W0 97 [.st ys, .raw (.int .i64 k)] g (fun y => y = .raw (.int .i64 k')) := by
  obtain ⟨F, hF⟩ := o.lent
  exact PW.lend (.cons hF (.cons lent_raw .nil)) (hd F _) (fun y h => by subst h; exact .raw)

theorem eqTable_tree {g : H2} {c : LTable} {bs bs' : List Nat} {ys ys' : List X} (o : OTs g bs ys (eTable c)) (o' : OTs g bs' ys' (eTable c)) (hf : fitTable c) : PW Try.prog W0 78 [.st ys, .st ys'] g (fun y => y = .raw (.bool true)) := by
  obtain ⟨F, hF⟩ := o.lent
  obtain ⟨F', hF'⟩ := o'.lent
  exact PW.lend (.cons hF (.cons hF' .nil)) (eqTable_ok (F := F) (F' := F') hf) (fun y h => by subst h; exact .raw)

theorem eqRequest_tree {g : H2} {c : LRequest} {bs bs' : List Nat} {ys ys' : List X} (o : OTs g bs ys (eRequest c)) (o' : OTs g bs' ys' (eRequest c)) (hf : fitRequest c) : PW Try.prog W0 38 [.st ys, .st ys'] g (fun y => y = .raw (.bool true)) := by
  obtain ⟨F, hF⟩ := o.lent
  obtain ⟨F', hF'⟩ := o'.lent
  exact PW.lend (.cons hF (.cons hF' .nil)) (eqRequest_ok (F := F) (F' := F') hf) (fun y h => by subst h; exact .raw)

theorem eqAsk_tree {g : H2} {c : LAsk} {bs bs' : List Nat} {ys ys' : List X} (o : OTs g bs ys (eAsk c)) (o' : OTs g bs' ys' (eAsk c)) (hf : fitAsk c) : PW Try.prog W0 44 [.st ys, .st ys'] g (fun y => y = .raw (.bool true)) := by
  obtain ⟨F, hF⟩ := o.lent
  obtain ⟨F', hF'⟩ := o'.lent
  exact PW.lend (.cons hF (.cons hF' .nil)) (eqAsk_ok (F := F) (F' := F') hf) (fun y h => by subst h; exact .raw)
theorem heldAsk_tree {g : H2} {c : LAsk} {bs : List Nat} {ys : List X} {k k' : Int} (o : OTs g bs ys (eAsk c)) (hd : ∀ F g, PW Try.prog W0 51 [.st (xAsk F c), .raw (.int .i64 k)] g (fun y => y = .raw (.int .i64 k'))) : PW Try.prog W0 51 [.st ys, .raw (.int .i64 k)] g (fun y => y = .raw (.int .i64 k')) := by
  obtain ⟨F, hF⟩ := o.lent
  exact PW.lend (.cons hF (.cons lent_raw .nil)) (hd F _) (fun y h => by subst h; exact .raw)

end Go.Bi
