/- Both sides of Choose, over rows of one's own. -/
import Derived.Test.YtdakdjpndomdpaaGd
set_option linter.unusedSimpArgs false
set_option linter.unusedVariables false
namespace Go.Bi
open Go.Proofs
variable {W0 : World} {P : Program}
theorem implChoose_tree {c : LConfig} {s : Int} {zs : List Int} {g : H2} {bs bs' : List Nat} {ys : List X} {y : X} (o : OTs g bs ys (eConfig c)) (o' : OT g bs' y (.l 1 (ints zs))) (hf : fitConfig c) (hs : zs.length ≤ 1048576) :
    WC2 Try.prog W0 46 [.st ys, .raw (.int .u64 s), y] g (fun x g' => g.le g' ∧ x = .tp [.raw (.int .i64 (chooseI c s zs).1), .raw (.int .u64 (chooseI c s zs).2.1), .raw (.bool (chooseI c s zs).2.2)]) := by
  obtain ⟨F, hF⟩ := o.lent
  obtain ⟨F', hF'⟩ := o'.lent
  have c1 : PW Try.prog W0 46 [.st ys, .raw (.int .u64 s), y] g (fun r => r = choX (chooseI c s zs)) := PW.lend (.cons hF (.cons lent_raw (.cons hF' .nil))) (implChoose_ok (F := F) hf.1 hs) (fun y h => by rw [h]; exact choX_plain.all)
  refine WC2.mono c1 ?_
  rintro x g' ⟨h1, h2, h3⟩
  exact ⟨by rw [h1]; exact le_up (H2.le.refl _) h2, h3⟩
theorem specChoose_tree {c : LConfig} {s : Int} {zs : List Int} {g : H2} {bs bs' : List Nat} {ys : List X} {y : X} (o : OTs g bs ys (eConfig c)) (o' : OT g bs' y (.l 1 (ints zs))) (hf : fitConfig c) (hs : zs.length ≤ 1048576) :
    WC2 Try.prog W0 52 [.st ys, .raw (.int .u64 s), y] g (fun x g' => g.le g' ∧ x = .tp [.raw (.int .i64 (chooseI c s zs).1), .raw (.int .u64 (chooseI c s zs).2.1), .raw (.bool (chooseI c s zs).2.2)]) := by
  obtain ⟨F, hF⟩ := o.lent
  obtain ⟨F', hF'⟩ := o'.lent
  have c1 : PW Try.prog W0 52 [.st ys, .raw (.int .u64 s), y] g (fun r => r = choX (chooseI c s zs)) := PW.lend (.cons hF (.cons lent_raw (.cons hF' .nil))) (specChoose_ok (F := F) hf.1 hs) (fun y h => by rw [h]; exact choX_plain.all)
  refine WC2.mono c1 ?_
  rintro x g' ⟨h1, h2, h3⟩
  exact ⟨by rw [h1]; exact le_up (H2.le.refl _) h2, h3⟩
end Go.Bi
