/-
  No cell of these rows narrows 'for every input' (looked for: loops, veiled, ifaces, maps, wideKeys, modest, calm, conditions, laid).
  DERIVED. THE GIVEN ROWS OF THIS SEAT. 6 by the template 'for every input the law returns true; each argument reads behind the call as it read before'; 0 by the template 'total and deterministic' (their statements: YtegpkkefbmcddaaGreatTotals.lean).
  GIVEN WITH THE SEED: the statements are not yours to turn. If you find one false, say at which input.
  Laid BY PROGRAM, IN A SANDBOX (cutbox-rows.mjs): the forced cells as the released guide's own fill.sh prints them over the translation 2363ae99acacb64f… (all of the seat's roots in one cut). By AI agents, Wed Nov 11 2026. No macro, syntax, notation, axiom, sorry.
-/
import Derived.Test.YtegpkkefbmcddaaGreatChecked
import GoSem.Claim
import GoSem.ClaimJoined
import GoSem.ClaimMapViews
import Derived.JoinedTies
import Derived.KernelRfl
namespace Go.Proofs.YtegpkkefbmcddaaGreat
/- THE CELL 'sum', in the pinned program and in every row, IS THE sha256 OF THE DUMP (.gsa) THAT YtegpkkefbmcddaaGreatProg.lean LOADS. Nothing in Lean hashes anything: it is a label: what it is worth is what the hold of that sum in a sandbox is worth. -/
noncomputable def Tryz.pinned : Pinned := { name := "ytegpkkefbmcddaagreat", sum := "2363ae99acacb64f1af9a7d9ff135a69638f6ab0a254339dc010b217dc74e959", checked := Tryz.checked }
namespace Rows
def none {H : Type} : Left H := { results := [], args := [] }

/-- 'laws.FnExactStepToken': WHATEVER THE INPUT: true; the input reads as it did. -/
def fnExactStepTokenSpec : ChangeSpec := { name := "fnExactStepToken", fn := fun _ => fun
  | [d1, d2, d3] => { results := [.lit (.bool true)], args := [d1, d2, d3] }
  | _ => none }
def fnExactStepTokenRow : OpenClaim := { program := "ytegpkkefbmcddaagreat", sum := "2363ae99acacb64f1af9a7d9ff135a69638f6ab0a254339dc010b217dc74e959", func := "loop.example/g00112/laws.FnExactStepToken", spec := "fnExactStepToken", unfollowed := true, recurses := true, apart := false }
def FnExactStepTokenSaid : Prop := fnExactStepTokenRow.holds Tryz.pinned (OpenSpec.ofChange fnExactStepTokenSpec)

/-- ITS FALSE NEIGHBOUR: 'it returns false'. Refute it at one input. -/
def fnExactStepTokenWrong : ChangeSpec := { name := "fnExactStepToken", fn := fun _ => fun
  | [d1, d2, d3] => { results := [.lit (.bool false)], args := [d1, d2, d3] }
  | _ => none }
def FnExactStepTokenWrongFalsely : Prop := fnExactStepTokenRow.holds Tryz.pinned (OpenSpec.ofChange fnExactStepTokenWrong)

/-- 'laws.FnExactPrefill': WHATEVER THE INPUT: true; the input reads as it did. -/
def fnExactPrefillSpec : ChangeSpec := { name := "fnExactPrefill", fn := fun _ => fun
  | [d1, d2] => { results := [.lit (.bool true)], args := [d1, d2] }
  | _ => none }
def fnExactPrefillRow : OpenClaim := { program := "ytegpkkefbmcddaagreat", sum := "2363ae99acacb64f1af9a7d9ff135a69638f6ab0a254339dc010b217dc74e959", func := "loop.example/g00112/laws.FnExactPrefill", spec := "fnExactPrefill", unfollowed := true, recurses := true, apart := false }
def FnExactPrefillSaid : Prop := fnExactPrefillRow.holds Tryz.pinned (OpenSpec.ofChange fnExactPrefillSpec)

/-- ITS FALSE NEIGHBOUR: 'it returns false'. Refute it at one input. -/
def fnExactPrefillWrong : ChangeSpec := { name := "fnExactPrefill", fn := fun _ => fun
  | [d1, d2] => { results := [.lit (.bool false)], args := [d1, d2] }
  | _ => none }
def FnExactPrefillWrongFalsely : Prop := fnExactPrefillRow.holds Tryz.pinned (OpenSpec.ofChange fnExactPrefillWrong)

/-- 'laws.FnExactBounds': WHATEVER THE INPUT: true; the input reads as it did. -/
def fnExactBoundsSpec : ChangeSpec := { name := "fnExactBounds", fn := fun _ => fun
  | [d1, d2] => { results := [.lit (.bool true)], args := [d1, d2] }
  | _ => none }
def fnExactBoundsRow : OpenClaim := { program := "ytegpkkefbmcddaagreat", sum := "2363ae99acacb64f1af9a7d9ff135a69638f6ab0a254339dc010b217dc74e959", func := "loop.example/g00112/laws.FnExactBounds", spec := "fnExactBounds", unfollowed := true, recurses := true, apart := false }
def FnExactBoundsSaid : Prop := fnExactBoundsRow.holds Tryz.pinned (OpenSpec.ofChange fnExactBoundsSpec)

/-- ITS FALSE NEIGHBOUR: 'it returns false'. Refute it at one input. -/
def fnExactBoundsWrong : ChangeSpec := { name := "fnExactBounds", fn := fun _ => fun
  | [d1, d2] => { results := [.lit (.bool false)], args := [d1, d2] }
  | _ => none }
def FnExactBoundsWrongFalsely : Prop := fnExactBoundsRow.holds Tryz.pinned (OpenSpec.ofChange fnExactBoundsWrong)

/-- 'laws.FnExactPerplex': WHATEVER THE INPUT: true; the input reads as it did. -/
def fnExactPerplexSpec : ChangeSpec := { name := "fnExactPerplex", fn := fun _ => fun
  | [d1, d2] => { results := [.lit (.bool true)], args := [d1, d2] }
  | _ => none }
def fnExactPerplexRow : OpenClaim := { program := "ytegpkkefbmcddaagreat", sum := "2363ae99acacb64f1af9a7d9ff135a69638f6ab0a254339dc010b217dc74e959", func := "loop.example/g00112/laws.FnExactPerplex", spec := "fnExactPerplex", unfollowed := true, recurses := true, apart := false }
def FnExactPerplexSaid : Prop := fnExactPerplexRow.holds Tryz.pinned (OpenSpec.ofChange fnExactPerplexSpec)

/-- ITS FALSE NEIGHBOUR: 'it returns false'. Refute it at one input. -/
def fnExactPerplexWrong : ChangeSpec := { name := "fnExactPerplex", fn := fun _ => fun
  | [d1, d2] => { results := [.lit (.bool false)], args := [d1, d2] }
  | _ => none }
def FnExactPerplexWrongFalsely : Prop := fnExactPerplexRow.holds Tryz.pinned (OpenSpec.ofChange fnExactPerplexWrong)

/-- 'laws.FnExactGenMore': WHATEVER THE INPUT: true; the input reads as it did. -/
def fnExactGenMoreSpec : ChangeSpec := { name := "fnExactGenMore", fn := fun _ => fun
  | [d1, d2, d3, d4] => { results := [.lit (.bool true)], args := [d1, d2, d3, d4] }
  | _ => none }
def fnExactGenMoreRow : OpenClaim := { program := "ytegpkkefbmcddaagreat", sum := "2363ae99acacb64f1af9a7d9ff135a69638f6ab0a254339dc010b217dc74e959", func := "loop.example/g00112/laws.FnExactGenMore", spec := "fnExactGenMore", unfollowed := true, recurses := true, apart := false }
def FnExactGenMoreSaid : Prop := fnExactGenMoreRow.holds Tryz.pinned (OpenSpec.ofChange fnExactGenMoreSpec)

/-- ITS FALSE NEIGHBOUR: 'it returns false'. Refute it at one input. -/
def fnExactGenMoreWrong : ChangeSpec := { name := "fnExactGenMore", fn := fun _ => fun
  | [d1, d2, d3, d4] => { results := [.lit (.bool false)], args := [d1, d2, d3, d4] }
  | _ => none }
def FnExactGenMoreWrongFalsely : Prop := fnExactGenMoreRow.holds Tryz.pinned (OpenSpec.ofChange fnExactGenMoreWrong)

/-- 'laws.FnExactGen': WHATEVER THE INPUT: true; the input reads as it did. -/
def fnExactGenSpec : ChangeSpec := { name := "fnExactGen", fn := fun _ => fun
  | [d1, d2, d3] => { results := [.lit (.bool true)], args := [d1, d2, d3] }
  | _ => none }
def fnExactGenRow : OpenClaim := { program := "ytegpkkefbmcddaagreat", sum := "2363ae99acacb64f1af9a7d9ff135a69638f6ab0a254339dc010b217dc74e959", func := "loop.example/g00112/laws.FnExactGen", spec := "fnExactGen", unfollowed := true, recurses := true, apart := false }
def FnExactGenSaid : Prop := fnExactGenRow.holds Tryz.pinned (OpenSpec.ofChange fnExactGenSpec)

/-- ITS FALSE NEIGHBOUR: 'it returns false'. Refute it at one input. -/
def fnExactGenWrong : ChangeSpec := { name := "fnExactGen", fn := fun _ => fun
  | [d1, d2, d3] => { results := [.lit (.bool false)], args := [d1, d2, d3] }
  | _ => none }
def FnExactGenWrongFalsely : Prop := fnExactGenRow.holds Tryz.pinned (OpenSpec.ofChange fnExactGenWrong)

/- THE SECOND FORM. 'bulk': how many values and letters a reading holds, each counted each time it is reached (what is shared counts as often as it is met; a slice's spare places count too). A statement '..UptoSaid' is the law's where the arguments, and the package variables that the reading takes, are together of bulk at most 1048576: NARROWER than '..Said'. Prove '..Said' where nothing that the law and all that it calls make is longer than what came in: it says more and counts as full. Else prove '..UptoSaid'. A law counts once. -/
mutual
def uptoBulk {H : Type} : DataW H → Nat
  | .lit (.string bytes) => bytes.length + 1
  | .lit _ => 1
  | .nil => 1
  | .ptr d => uptoBulk d + 1
  | .slice elems spare => uptoBulkAll elems + uptoBulkAll spare + 1
  | .agg parts => uptoBulkAll parts + 1
  | .iface _ d => uptoBulk d + 1
  | .map entries => uptoBulkEntries entries + 1
  | .held _ => 1
def uptoBulkAll {H : Type} : List (DataW H) → Nat
  | [] => 0
  | d :: r => uptoBulk d + uptoBulkAll r
def uptoBulkEntries {H : Type} : List (Lit × DataW H) → Nat
  | [] => 0
  | x :: r => uptoBulkEntry x + uptoBulkEntries r
def uptoBulkEntry {H : Type} : Lit × DataW H → Nat
  | (.string bytes, d) => bytes.length + uptoBulk d + 1
  | (_, d) => uptoBulk d + 1
 end
def uptoSmall : (H : Type) → List (DataW H) → Bool := fun _ ds => decide (uptoBulkAll ds ≤ 1048576)
def OpenSpec.upto (s : _root_.Go.ChangeSpec) : _root_.Go.OpenSpec := { _root_.Go.OpenSpec.ofChange s with cond := some uptoSmall }

/-- 'laws.FnExactStepToken', WHERE WHAT IT READS IS OF BULK AT MOST 1048576: true; the input reads as it did. -/
def fnExactStepTokenUptoRow : OpenClaim := { program := "ytegpkkefbmcddaagreat", sum := "2363ae99acacb64f1af9a7d9ff135a69638f6ab0a254339dc010b217dc74e959", func := "loop.example/g00112/laws.FnExactStepToken", spec := "fnExactStepToken", unfollowed := true, recurses := true, apart := false, narrowed := true }
def FnExactStepTokenUptoSaid : Prop := fnExactStepTokenUptoRow.holds Tryz.pinned (OpenSpec.upto fnExactStepTokenSpec)

/-- 'laws.FnExactPrefill', WHERE WHAT IT READS IS OF BULK AT MOST 1048576: true; the input reads as it did. -/
def fnExactPrefillUptoRow : OpenClaim := { program := "ytegpkkefbmcddaagreat", sum := "2363ae99acacb64f1af9a7d9ff135a69638f6ab0a254339dc010b217dc74e959", func := "loop.example/g00112/laws.FnExactPrefill", spec := "fnExactPrefill", unfollowed := true, recurses := true, apart := false, narrowed := true }
def FnExactPrefillUptoSaid : Prop := fnExactPrefillUptoRow.holds Tryz.pinned (OpenSpec.upto fnExactPrefillSpec)

/-- 'laws.FnExactBounds', WHERE WHAT IT READS IS OF BULK AT MOST 1048576: true; the input reads as it did. -/
def fnExactBoundsUptoRow : OpenClaim := { program := "ytegpkkefbmcddaagreat", sum := "2363ae99acacb64f1af9a7d9ff135a69638f6ab0a254339dc010b217dc74e959", func := "loop.example/g00112/laws.FnExactBounds", spec := "fnExactBounds", unfollowed := true, recurses := true, apart := false, narrowed := true }
def FnExactBoundsUptoSaid : Prop := fnExactBoundsUptoRow.holds Tryz.pinned (OpenSpec.upto fnExactBoundsSpec)

/-- 'laws.FnExactPerplex', WHERE WHAT IT READS IS OF BULK AT MOST 1048576: true; the input reads as it did. -/
def fnExactPerplexUptoRow : OpenClaim := { program := "ytegpkkefbmcddaagreat", sum := "2363ae99acacb64f1af9a7d9ff135a69638f6ab0a254339dc010b217dc74e959", func := "loop.example/g00112/laws.FnExactPerplex", spec := "fnExactPerplex", unfollowed := true, recurses := true, apart := false, narrowed := true }
def FnExactPerplexUptoSaid : Prop := fnExactPerplexUptoRow.holds Tryz.pinned (OpenSpec.upto fnExactPerplexSpec)

/-- 'laws.FnExactGenMore', WHERE WHAT IT READS IS OF BULK AT MOST 1048576: true; the input reads as it did. -/
def fnExactGenMoreUptoRow : OpenClaim := { program := "ytegpkkefbmcddaagreat", sum := "2363ae99acacb64f1af9a7d9ff135a69638f6ab0a254339dc010b217dc74e959", func := "loop.example/g00112/laws.FnExactGenMore", spec := "fnExactGenMore", unfollowed := true, recurses := true, apart := false, narrowed := true }
def FnExactGenMoreUptoSaid : Prop := fnExactGenMoreUptoRow.holds Tryz.pinned (OpenSpec.upto fnExactGenMoreSpec)

/-- 'laws.FnExactGen', WHERE WHAT IT READS IS OF BULK AT MOST 1048576: true; the input reads as it did. -/
def fnExactGenUptoRow : OpenClaim := { program := "ytegpkkefbmcddaagreat", sum := "2363ae99acacb64f1af9a7d9ff135a69638f6ab0a254339dc010b217dc74e959", func := "loop.example/g00112/laws.FnExactGen", spec := "fnExactGen", unfollowed := true, recurses := true, apart := false, narrowed := true }
def FnExactGenUptoSaid : Prop := fnExactGenUptoRow.holds Tryz.pinned (OpenSpec.upto fnExactGenSpec)

end Rows
end Go.Proofs.YtegpkkefbmcddaaGreat
