/-
  No cell of these rows narrows 'for every input' (looked for: loops, veiled, ifaces, maps, wideKeys, modest, calm, conditions, laid).
  DERIVED. THE GIVEN ROWS OF THIS SEAT. 12 by the template 'for every input the law returns true; each argument reads behind the call as it read before'; 0 by the template 'total and deterministic' (their statements: YtdakdjpndomdpaaTotals.lean).
  GIVEN WITH THE SEED: the statements are not yours to turn. If you find one false, say at which input.
  Laid BY PROGRAM, IN A SANDBOX (cutbox-rows.mjs): the forced cells as the released guide's own fill.sh prints them over the translation 55cc424d38908a32… (all of the seat's roots in one cut). By AI agents, Wed Nov 11 2026. No macro, syntax, notation, axiom, sorry.
-/
import Derived.Test.YtdakdjpndomdpaaChecked
import GoSem.Claim
import GoSem.ClaimJoined
import GoSem.ClaimMapViews
import Derived.JoinedTies
import Derived.KernelRfl
namespace Go.Proofs.Ytdakdjpndomdpaa
/- THE CELL 'sum', in the pinned program and in every row, IS THE sha256 OF THE DUMP (.gsa) THAT YtdakdjpndomdpaaProg.lean LOADS. Nothing in Lean hashes anything: it is a label: what it is worth is what the hold of that sum in a sandbox is worth. -/
noncomputable def Try.pinned : Pinned := { name := "ytdakdjpndomdpaa", sum := "55cc424d38908a3208db64c92eb0b69e2374cd2ca8851ae86787610422180df5", checked := Try.checked }
namespace Rows
def none {H : Type} : Left H := { results := [], args := [] }

/-- 'laws.FnExactSeedOf': WHATEVER THE INPUT: true; the input reads as it did. -/
def fnExactSeedOfSpec : ChangeSpec := { name := "fnExactSeedOf", fn := fun _ => fun
  | [d] => { results := [.lit (.bool true)], args := [d] }
  | _ => none }
def fnExactSeedOfRow : OpenClaim := { program := "ytdakdjpndomdpaa", sum := "55cc424d38908a3208db64c92eb0b69e2374cd2ca8851ae86787610422180df5", func := "loop.example/g00112/laws.FnExactSeedOf", spec := "fnExactSeedOf", apart := false }
def FnExactSeedOfSaid : Prop := fnExactSeedOfRow.holds Try.pinned (OpenSpec.ofChange fnExactSeedOfSpec)

/-- ITS FALSE NEIGHBOUR: 'it returns false'. Refute it at one input. -/
def fnExactSeedOfWrong : ChangeSpec := { name := "fnExactSeedOf", fn := fun _ => fun
  | [d] => { results := [.lit (.bool false)], args := [d] }
  | _ => none }
def FnExactSeedOfWrongFalsely : Prop := fnExactSeedOfRow.holds Try.pinned (OpenSpec.ofChange fnExactSeedOfWrong)

/-- 'laws.FnExactNextState': WHATEVER THE INPUT: true; the input reads as it did. -/
def fnExactNextStateSpec : ChangeSpec := { name := "fnExactNextState", fn := fun _ => fun
  | [d] => { results := [.lit (.bool true)], args := [d] }
  | _ => none }
def fnExactNextStateRow : OpenClaim := { program := "ytdakdjpndomdpaa", sum := "55cc424d38908a3208db64c92eb0b69e2374cd2ca8851ae86787610422180df5", func := "loop.example/g00112/laws.FnExactNextState", spec := "fnExactNextState", apart := false }
def FnExactNextStateSaid : Prop := fnExactNextStateRow.holds Try.pinned (OpenSpec.ofChange fnExactNextStateSpec)

/-- ITS FALSE NEIGHBOUR: 'it returns false'. Refute it at one input. -/
def fnExactNextStateWrong : ChangeSpec := { name := "fnExactNextState", fn := fun _ => fun
  | [d] => { results := [.lit (.bool false)], args := [d] }
  | _ => none }
def FnExactNextStateWrongFalsely : Prop := fnExactNextStateRow.holds Try.pinned (OpenSpec.ofChange fnExactNextStateWrong)

/-- 'laws.FnState': WHATEVER THE INPUT: true; the input reads as it did. -/
def fnStateSpec : ChangeSpec := { name := "fnState", fn := fun _ => fun
  | [d] => { results := [.lit (.bool true)], args := [d] }
  | _ => none }
def fnStateRow : OpenClaim := { program := "ytdakdjpndomdpaa", sum := "55cc424d38908a3208db64c92eb0b69e2374cd2ca8851ae86787610422180df5", func := "loop.example/g00112/laws.FnState", spec := "fnState", apart := false }
def FnStateSaid : Prop := fnStateRow.holds Try.pinned (OpenSpec.ofChange fnStateSpec)

/-- ITS FALSE NEIGHBOUR: 'it returns false'. Refute it at one input. -/
def fnStateWrong : ChangeSpec := { name := "fnState", fn := fun _ => fun
  | [d] => { results := [.lit (.bool false)], args := [d] }
  | _ => none }
def FnStateWrongFalsely : Prop := fnStateRow.holds Try.pinned (OpenSpec.ofChange fnStateWrong)

/-- 'laws.FnExactConfigOk': WHATEVER THE INPUT: true; the input reads as it did. -/
def fnExactConfigOkSpec : ChangeSpec := { name := "fnExactConfigOk", fn := fun _ => fun
  | [d] => { results := [.lit (.bool true)], args := [d] }
  | _ => none }
def fnExactConfigOkRow : OpenClaim := { program := "ytdakdjpndomdpaa", sum := "55cc424d38908a3208db64c92eb0b69e2374cd2ca8851ae86787610422180df5", func := "loop.example/g00112/laws.FnExactConfigOk", spec := "fnExactConfigOk", unfollowed := true, recurses := true, apart := false }
def FnExactConfigOkSaid : Prop := fnExactConfigOkRow.holds Try.pinned (OpenSpec.ofChange fnExactConfigOkSpec)

/-- ITS FALSE NEIGHBOUR: 'it returns false'. Refute it at one input. -/
def fnExactConfigOkWrong : ChangeSpec := { name := "fnExactConfigOk", fn := fun _ => fun
  | [d] => { results := [.lit (.bool false)], args := [d] }
  | _ => none }
def FnExactConfigOkWrongFalsely : Prop := fnExactConfigOkRow.holds Try.pinned (OpenSpec.ofChange fnExactConfigOkWrong)

/-- 'laws.FnExactChanceOf': WHATEVER THE INPUT: true; the input reads as it did. -/
def fnExactChanceOfSpec : ChangeSpec := { name := "fnExactChanceOf", fn := fun _ => fun
  | [d1, d2] => { results := [.lit (.bool true)], args := [d1, d2] }
  | _ => none }
def fnExactChanceOfRow : OpenClaim := { program := "ytdakdjpndomdpaa", sum := "55cc424d38908a3208db64c92eb0b69e2374cd2ca8851ae86787610422180df5", func := "loop.example/g00112/laws.FnExactChanceOf", spec := "fnExactChanceOf", unfollowed := true, recurses := true, apart := false }
def FnExactChanceOfSaid : Prop := fnExactChanceOfRow.holds Try.pinned (OpenSpec.ofChange fnExactChanceOfSpec)

/-- ITS FALSE NEIGHBOUR: 'it returns false'. Refute it at one input. -/
def fnExactChanceOfWrong : ChangeSpec := { name := "fnExactChanceOf", fn := fun _ => fun
  | [d1, d2] => { results := [.lit (.bool false)], args := [d1, d2] }
  | _ => none }
def FnExactChanceOfWrongFalsely : Prop := fnExactChanceOfRow.holds Try.pinned (OpenSpec.ofChange fnExactChanceOfWrong)

/-- 'laws.FnExactTopOf': WHATEVER THE INPUT: true; the input reads as it did. -/
def fnExactTopOfSpec : ChangeSpec := { name := "fnExactTopOf", fn := fun _ => fun
  | [d1, d2] => { results := [.lit (.bool true)], args := [d1, d2] }
  | _ => none }
def fnExactTopOfRow : OpenClaim := { program := "ytdakdjpndomdpaa", sum := "55cc424d38908a3208db64c92eb0b69e2374cd2ca8851ae86787610422180df5", func := "loop.example/g00112/laws.FnExactTopOf", spec := "fnExactTopOf", unfollowed := true, recurses := true, apart := false }
def FnExactTopOfSaid : Prop := fnExactTopOfRow.holds Try.pinned (OpenSpec.ofChange fnExactTopOfSpec)

/-- ITS FALSE NEIGHBOUR: 'it returns false'. Refute it at one input. -/
def fnExactTopOfWrong : ChangeSpec := { name := "fnExactTopOf", fn := fun _ => fun
  | [d1, d2] => { results := [.lit (.bool false)], args := [d1, d2] }
  | _ => none }
def FnExactTopOfWrongFalsely : Prop := fnExactTopOfRow.holds Try.pinned (OpenSpec.ofChange fnExactTopOfWrong)

/-- 'laws.FnExactGotOf': WHATEVER THE INPUT: true; the input reads as it did. -/
def fnExactGotOfSpec : ChangeSpec := { name := "fnExactGotOf", fn := fun _ => fun
  | [d] => { results := [.lit (.bool true)], args := [d] }
  | _ => none }
def fnExactGotOfRow : OpenClaim := { program := "ytdakdjpndomdpaa", sum := "55cc424d38908a3208db64c92eb0b69e2374cd2ca8851ae86787610422180df5", func := "loop.example/g00112/laws.FnExactGotOf", spec := "fnExactGotOf", apart := false }
def FnExactGotOfSaid : Prop := fnExactGotOfRow.holds Try.pinned (OpenSpec.ofChange fnExactGotOfSpec)

/-- ITS FALSE NEIGHBOUR: 'it returns false'. Refute it at one input. -/
def fnExactGotOfWrong : ChangeSpec := { name := "fnExactGotOf", fn := fun _ => fun
  | [d] => { results := [.lit (.bool false)], args := [d] }
  | _ => none }
def FnExactGotOfWrongFalsely : Prop := fnExactGotOfRow.holds Try.pinned (OpenSpec.ofChange fnExactGotOfWrong)

/-- 'laws.FnExactAskText': WHATEVER THE INPUT: true; the input reads as it did. -/
def fnExactAskTextSpec : ChangeSpec := { name := "fnExactAskText", fn := fun _ => fun
  | [d] => { results := [.lit (.bool true)], args := [d] }
  | _ => none }
def fnExactAskTextRow : OpenClaim := { program := "ytdakdjpndomdpaa", sum := "55cc424d38908a3208db64c92eb0b69e2374cd2ca8851ae86787610422180df5", func := "loop.example/g00112/laws.FnExactAskText", spec := "fnExactAskText", unfollowed := true, recurses := true, apart := false }
def FnExactAskTextSaid : Prop := fnExactAskTextRow.holds Try.pinned (OpenSpec.ofChange fnExactAskTextSpec)

/-- ITS FALSE NEIGHBOUR: 'it returns false'. Refute it at one input. -/
def fnExactAskTextWrong : ChangeSpec := { name := "fnExactAskText", fn := fun _ => fun
  | [d] => { results := [.lit (.bool false)], args := [d] }
  | _ => none }
def FnExactAskTextWrongFalsely : Prop := fnExactAskTextRow.holds Try.pinned (OpenSpec.ofChange fnExactAskTextWrong)

/-- 'laws.FnChooses': WHATEVER THE INPUT: true; the input reads as it did. -/
def fnChoosesSpec : ChangeSpec := { name := "fnChooses", fn := fun _ => fun
  | [d] => { results := [.lit (.bool true)], args := [d] }
  | _ => none }
def fnChoosesRow : OpenClaim := { program := "ytdakdjpndomdpaa", sum := "55cc424d38908a3208db64c92eb0b69e2374cd2ca8851ae86787610422180df5", func := "loop.example/g00112/laws.FnChooses", spec := "fnChooses", unfollowed := true, recurses := true, apart := false }
def FnChoosesSaid : Prop := fnChoosesRow.holds Try.pinned (OpenSpec.ofChange fnChoosesSpec)

/-- ITS FALSE NEIGHBOUR: 'it returns false'. Refute it at one input. -/
def fnChoosesWrong : ChangeSpec := { name := "fnChooses", fn := fun _ => fun
  | [d] => { results := [.lit (.bool false)], args := [d] }
  | _ => none }
def FnChoosesWrongFalsely : Prop := fnChoosesRow.holds Try.pinned (OpenSpec.ofChange fnChoosesWrong)

/-- 'laws.FnExactReadAsk': WHATEVER THE INPUT: true; the input reads as it did. -/
def fnExactReadAskSpec : ChangeSpec := { name := "fnExactReadAsk", fn := fun _ => fun
  | [d] => { results := [.lit (.bool true)], args := [d] }
  | _ => none }
def fnExactReadAskRow : OpenClaim := { program := "ytdakdjpndomdpaa", sum := "55cc424d38908a3208db64c92eb0b69e2374cd2ca8851ae86787610422180df5", func := "loop.example/g00112/laws.FnExactReadAsk", spec := "fnExactReadAsk", unfollowed := true, recurses := true, apart := false }
def FnExactReadAskSaid : Prop := fnExactReadAskRow.holds Try.pinned (OpenSpec.ofChange fnExactReadAskSpec)

/-- ITS FALSE NEIGHBOUR: 'it returns false'. Refute it at one input. -/
def fnExactReadAskWrong : ChangeSpec := { name := "fnExactReadAsk", fn := fun _ => fun
  | [d] => { results := [.lit (.bool false)], args := [d] }
  | _ => none }
def FnExactReadAskWrongFalsely : Prop := fnExactReadAskRow.holds Try.pinned (OpenSpec.ofChange fnExactReadAskWrong)

/-- 'laws.FnExactChoose': WHATEVER THE INPUT: true; the input reads as it did. -/
def fnExactChooseSpec : ChangeSpec := { name := "fnExactChoose", fn := fun _ => fun
  | [d1, d2, d3] => { results := [.lit (.bool true)], args := [d1, d2, d3] }
  | _ => none }
def fnExactChooseRow : OpenClaim := { program := "ytdakdjpndomdpaa", sum := "55cc424d38908a3208db64c92eb0b69e2374cd2ca8851ae86787610422180df5", func := "loop.example/g00112/laws.FnExactChoose", spec := "fnExactChoose", unfollowed := true, recurses := true, apart := false }
def FnExactChooseSaid : Prop := fnExactChooseRow.holds Try.pinned (OpenSpec.ofChange fnExactChooseSpec)

/-- ITS FALSE NEIGHBOUR: 'it returns false'. Refute it at one input. -/
def fnExactChooseWrong : ChangeSpec := { name := "fnExactChoose", fn := fun _ => fun
  | [d1, d2, d3] => { results := [.lit (.bool false)], args := [d1, d2, d3] }
  | _ => none }
def FnExactChooseWrongFalsely : Prop := fnExactChooseRow.holds Try.pinned (OpenSpec.ofChange fnExactChooseWrong)

/-- 'laws.FnStops': WHATEVER THE INPUT: true; the input reads as it did. -/
def fnStopsSpec : ChangeSpec := { name := "fnStops", fn := fun _ => fun
  | [d] => { results := [.lit (.bool true)], args := [d] }
  | _ => none }
def fnStopsRow : OpenClaim := { program := "ytdakdjpndomdpaa", sum := "55cc424d38908a3208db64c92eb0b69e2374cd2ca8851ae86787610422180df5", func := "loop.example/g00112/laws.FnStops", spec := "fnStops", inPlace := ["internal/bytealg.IndexByteString", "internal/bytealg.IndexString"], unfollowed := true, recurses := true, named := ["internal/bytealg.MaxLen"], apart := false }
def FnStopsSaid : Prop := fnStopsRow.holds Try.pinned (OpenSpec.ofChange fnStopsSpec)

/-- ITS FALSE NEIGHBOUR: 'it returns false'. Refute it at one input. -/
def fnStopsWrong : ChangeSpec := { name := "fnStops", fn := fun _ => fun
  | [d] => { results := [.lit (.bool false)], args := [d] }
  | _ => none }
def FnStopsWrongFalsely : Prop := fnStopsRow.holds Try.pinned (OpenSpec.ofChange fnStopsWrong)

/- THE SECOND FORM. 'bulk': how many values and letters a reading holds, each counted each time it is reached (what is shared counts as often as it is met; a slice's spare places count too). A statement '..UptoSaid' is the law's where the arguments, and the package variables that the reading takes, are together of bulk at most 1048576: NARROWER than '..Said'. Prove '..Said' where nothing that the law and all that it calls make is longer than what came in: it says more and counts as full. Else prove '..UptoSaid'. A law counts once. -/
mutual
def uptoBulk {H : Type} : DataW H → Nat
  | .lit (.string bytes) => bytes.length + 1
  | .lit _ => 1
  | .nil => 1
  | .ptr d => uptoBulk d + 1
  | .slice elems spare => uptoBulkAll elems + uptoBulkAll spare + 1
  | .agg parts => uptoBulkAll parts + 1
  | .iface _ d => uptoBulk d + 1
  | .map entries => uptoBulkEntries entries + 1
  | .held _ => 1
def uptoBulkAll {H : Type} : List (DataW H) → Nat
  | [] => 0
  | d :: r => uptoBulk d + uptoBulkAll r
def uptoBulkEntries {H : Type} : List (Lit × DataW H) → Nat
  | [] => 0
  | x :: r => uptoBulkEntry x + uptoBulkEntries r
def uptoBulkEntry {H : Type} : Lit × DataW H → Nat
  | (.string bytes, d) => bytes.length + uptoBulk d + 1
  | (_, d) => uptoBulk d + 1
 end
def uptoSmall : (H : Type) → List (DataW H) → Bool := fun _ ds => decide (uptoBulkAll ds ≤ 1048576)
def OpenSpec.upto (s : _root_.Go.ChangeSpec) : _root_.Go.OpenSpec := { _root_.Go.OpenSpec.ofChange s with cond := some uptoSmall }

/-- 'laws.FnExactSeedOf', WHERE WHAT IT READS IS OF BULK AT MOST 1048576: true; the input reads as it did. -/
def fnExactSeedOfUptoRow : OpenClaim := { program := "ytdakdjpndomdpaa", sum := "55cc424d38908a3208db64c92eb0b69e2374cd2ca8851ae86787610422180df5", func := "loop.example/g00112/laws.FnExactSeedOf", spec := "fnExactSeedOf", apart := false, narrowed := true }
def FnExactSeedOfUptoSaid : Prop := fnExactSeedOfUptoRow.holds Try.pinned (OpenSpec.upto fnExactSeedOfSpec)

/-- 'laws.FnExactNextState', WHERE WHAT IT READS IS OF BULK AT MOST 1048576: true; the input reads as it did. -/
def fnExactNextStateUptoRow : OpenClaim := { program := "ytdakdjpndomdpaa", sum := "55cc424d38908a3208db64c92eb0b69e2374cd2ca8851ae86787610422180df5", func := "loop.example/g00112/laws.FnExactNextState", spec := "fnExactNextState", apart := false, narrowed := true }
def FnExactNextStateUptoSaid : Prop := fnExactNextStateUptoRow.holds Try.pinned (OpenSpec.upto fnExactNextStateSpec)

/-- 'laws.FnState', WHERE WHAT IT READS IS OF BULK AT MOST 1048576: true; the input reads as it did. -/
def fnStateUptoRow : OpenClaim := { program := "ytdakdjpndomdpaa", sum := "55cc424d38908a3208db64c92eb0b69e2374cd2ca8851ae86787610422180df5", func := "loop.example/g00112/laws.FnState", spec := "fnState", apart := false, narrowed := true }
def FnStateUptoSaid : Prop := fnStateUptoRow.holds Try.pinned (OpenSpec.upto fnStateSpec)

/-- 'laws.FnExactConfigOk', WHERE WHAT IT READS IS OF BULK AT MOST 1048576: true; the input reads as it did. -/
def fnExactConfigOkUptoRow : OpenClaim := { program := "ytdakdjpndomdpaa", sum := "55cc424d38908a3208db64c92eb0b69e2374cd2ca8851ae86787610422180df5", func := "loop.example/g00112/laws.FnExactConfigOk", spec := "fnExactConfigOk", unfollowed := true, recurses := true, apart := false, narrowed := true }
def FnExactConfigOkUptoSaid : Prop := fnExactConfigOkUptoRow.holds Try.pinned (OpenSpec.upto fnExactConfigOkSpec)

/-- 'laws.FnExactChanceOf', WHERE WHAT IT READS IS OF BULK AT MOST 1048576: true; the input reads as it did. -/
def fnExactChanceOfUptoRow : OpenClaim := { program := "ytdakdjpndomdpaa", sum := "55cc424d38908a3208db64c92eb0b69e2374cd2ca8851ae86787610422180df5", func := "loop.example/g00112/laws.FnExactChanceOf", spec := "fnExactChanceOf", unfollowed := true, recurses := true, apart := false, narrowed := true }
def FnExactChanceOfUptoSaid : Prop := fnExactChanceOfUptoRow.holds Try.pinned (OpenSpec.upto fnExactChanceOfSpec)

/-- 'laws.FnExactTopOf', WHERE WHAT IT READS IS OF BULK AT MOST 1048576: true; the input reads as it did. -/
def fnExactTopOfUptoRow : OpenClaim := { program := "ytdakdjpndomdpaa", sum := "55cc424d38908a3208db64c92eb0b69e2374cd2ca8851ae86787610422180df5", func := "loop.example/g00112/laws.FnExactTopOf", spec := "fnExactTopOf", unfollowed := true, recurses := true, apart := false, narrowed := true }
def FnExactTopOfUptoSaid : Prop := fnExactTopOfUptoRow.holds Try.pinned (OpenSpec.upto fnExactTopOfSpec)

/-- 'laws.FnExactGotOf', WHERE WHAT IT READS IS OF BULK AT MOST 1048576: true; the input reads as it did. -/
def fnExactGotOfUptoRow : OpenClaim := { program := "ytdakdjpndomdpaa", sum := "55cc424d38908a3208db64c92eb0b69e2374cd2ca8851ae86787610422180df5", func := "loop.example/g00112/laws.FnExactGotOf", spec := "fnExactGotOf", apart := false, narrowed := true }
def FnExactGotOfUptoSaid : Prop := fnExactGotOfUptoRow.holds Try.pinned (OpenSpec.upto fnExactGotOfSpec)

/-- 'laws.FnExactAskText', WHERE WHAT IT READS IS OF BULK AT MOST 1048576: true; the input reads as it did. -/
def fnExactAskTextUptoRow : OpenClaim := { program := "ytdakdjpndomdpaa", sum := "55cc424d38908a3208db64c92eb0b69e2374cd2ca8851ae86787610422180df5", func := "loop.example/g00112/laws.FnExactAskText", spec := "fnExactAskText", unfollowed := true, recurses := true, apart := false, narrowed := true }
def FnExactAskTextUptoSaid : Prop := fnExactAskTextUptoRow.holds Try.pinned (OpenSpec.upto fnExactAskTextSpec)

/-- 'laws.FnChooses', WHERE WHAT IT READS IS OF BULK AT MOST 1048576: true; the input reads as it did. -/
def fnChoosesUptoRow : OpenClaim := { program := "ytdakdjpndomdpaa", sum := "55cc424d38908a3208db64c92eb0b69e2374cd2ca8851ae86787610422180df5", func := "loop.example/g00112/laws.FnChooses", spec := "fnChooses", unfollowed := true, recurses := true, apart := false, narrowed := true }
def FnChoosesUptoSaid : Prop := fnChoosesUptoRow.holds Try.pinned (OpenSpec.upto fnChoosesSpec)

/-- 'laws.FnExactReadAsk', WHERE WHAT IT READS IS OF BULK AT MOST 1048576: true; the input reads as it did. -/
def fnExactReadAskUptoRow : OpenClaim := { program := "ytdakdjpndomdpaa", sum := "55cc424d38908a3208db64c92eb0b69e2374cd2ca8851ae86787610422180df5", func := "loop.example/g00112/laws.FnExactReadAsk", spec := "fnExactReadAsk", unfollowed := true, recurses := true, apart := false, narrowed := true }
def FnExactReadAskUptoSaid : Prop := fnExactReadAskUptoRow.holds Try.pinned (OpenSpec.upto fnExactReadAskSpec)

/-- 'laws.FnExactChoose', WHERE WHAT IT READS IS OF BULK AT MOST 1048576: true; the input reads as it did. -/
def fnExactChooseUptoRow : OpenClaim := { program := "ytdakdjpndomdpaa", sum := "55cc424d38908a3208db64c92eb0b69e2374cd2ca8851ae86787610422180df5", func := "loop.example/g00112/laws.FnExactChoose", spec := "fnExactChoose", unfollowed := true, recurses := true, apart := false, narrowed := true }
def FnExactChooseUptoSaid : Prop := fnExactChooseUptoRow.holds Try.pinned (OpenSpec.upto fnExactChooseSpec)

/-- 'laws.FnStops', WHERE WHAT IT READS IS OF BULK AT MOST 1048576: true; the input reads as it did. -/
def fnStopsUptoRow : OpenClaim := { program := "ytdakdjpndomdpaa", sum := "55cc424d38908a3208db64c92eb0b69e2374cd2ca8851ae86787610422180df5", func := "loop.example/g00112/laws.FnStops", spec := "fnStops", inPlace := ["internal/bytealg.IndexByteString", "internal/bytealg.IndexString"], unfollowed := true, recurses := true, named := ["internal/bytealg.MaxLen"], apart := false, narrowed := true }
def FnStopsUptoSaid : Prop := fnStopsUptoRow.holds Try.pinned (OpenSpec.upto fnStopsSpec)

end Rows
end Go.Proofs.Ytdakdjpndomdpaa
