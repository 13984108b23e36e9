/-
  No cell of these rows narrows 'for every input' (looked for: loops, veiled, ifaces, maps, wideKeys, modest, calm, conditions, laid).
  DERIVED. THE GIVEN ROWS OF THIS SEAT. 8 by the template 'for every input the law returns true; each argument reads behind the call as it read before'; 0 by the template 'total and deterministic' (their statements: YtjofbadmkigkjaaGreatTotals.lean).
  GIVEN WITH THE SEED: the statements are not yours to turn. If you find one false, say at which input.
  Laid BY PROGRAM, IN A SANDBOX (cutbox-rows.mjs): the forced cells as the released guide's own fill.sh prints them over the translation 836e9b9cf2c3b38c… (all of the seat's roots in one cut). By AI agents, Wed Nov 11 2026. No macro, syntax, notation, axiom, sorry.
-/
import Derived.Test.YtjofbadmkigkjaaGreatChecked
import GoSem.Claim
import GoSem.ClaimJoined
import GoSem.ClaimMapViews
import Derived.JoinedTies
import Derived.KernelRfl
namespace Go.Proofs.YtjofbadmkigkjaaGreat
/- THE CELL 'sum', in the pinned program and in every row, IS THE sha256 OF THE DUMP (.gsa) THAT YtjofbadmkigkjaaGreatProg.lean LOADS. Nothing in Lean hashes anything: it is a label: what it is worth is what the hold of that sum in a sandbox is worth. -/
noncomputable def Tryz.pinned : Pinned := { name := "ytjofbadmkigkjaagreat", sum := "836e9b9cf2c3b38c3ef52ec27503a1863e230015878bf0c9bae3a586606468e5", checked := Tryz.checked }
namespace Rows
def none {H : Type} : Left H := { results := [], args := [] }

/-- 'laws.FnFresh': WHATEVER THE INPUT: true; the input reads as it did. -/
def fnFreshSpec : ChangeSpec := { name := "fnFresh", fn := fun _ => fun
  | [d] => { results := [.lit (.bool true)], args := [d] }
  | _ => none }
def fnFreshRow : OpenClaim := { program := "ytjofbadmkigkjaagreat", sum := "836e9b9cf2c3b38c3ef52ec27503a1863e230015878bf0c9bae3a586606468e5", func := "loop.example/g00112/laws.FnFresh", spec := "fnFresh", unfollowed := true, recurses := true, apart := false }
def FnFreshSaid : Prop := fnFreshRow.holds Tryz.pinned (OpenSpec.ofChange fnFreshSpec)

/-- ITS FALSE NEIGHBOUR: 'it returns false'. Refute it at one input. -/
def fnFreshWrong : ChangeSpec := { name := "fnFresh", fn := fun _ => fun
  | [d] => { results := [.lit (.bool false)], args := [d] }
  | _ => none }
def FnFreshWrongFalsely : Prop := fnFreshRow.holds Tryz.pinned (OpenSpec.ofChange fnFreshWrong)

/-- 'laws.FnExactEngineOk': WHATEVER THE INPUT: true; the input reads as it did. -/
def fnExactEngineOkSpec : ChangeSpec := { name := "fnExactEngineOk", fn := fun _ => fun
  | [d] => { results := [.lit (.bool true)], args := [d] }
  | _ => none }
def fnExactEngineOkRow : OpenClaim := { program := "ytjofbadmkigkjaagreat", sum := "836e9b9cf2c3b38c3ef52ec27503a1863e230015878bf0c9bae3a586606468e5", func := "loop.example/g00112/laws.FnExactEngineOk", spec := "fnExactEngineOk", unfollowed := true, recurses := true, apart := false }
def FnExactEngineOkSaid : Prop := fnExactEngineOkRow.holds Tryz.pinned (OpenSpec.ofChange fnExactEngineOkSpec)

/-- ITS FALSE NEIGHBOUR: 'it returns false'. Refute it at one input. -/
def fnExactEngineOkWrong : ChangeSpec := { name := "fnExactEngineOk", fn := fun _ => fun
  | [d] => { results := [.lit (.bool false)], args := [d] }
  | _ => none }
def FnExactEngineOkWrongFalsely : Prop := fnExactEngineOkRow.holds Tryz.pinned (OpenSpec.ofChange fnExactEngineOkWrong)

/-- 'laws.FnExactCensus': WHATEVER THE INPUT: true; the input reads as it did. -/
def fnExactCensusSpec : ChangeSpec := { name := "fnExactCensus", fn := fun _ => fun
  | [d] => { results := [.lit (.bool true)], args := [d] }
  | _ => none }
def fnExactCensusRow : OpenClaim := { program := "ytjofbadmkigkjaagreat", sum := "836e9b9cf2c3b38c3ef52ec27503a1863e230015878bf0c9bae3a586606468e5", func := "loop.example/g00112/laws.FnExactCensus", spec := "fnExactCensus", unfollowed := true, recurses := true, apart := false }
def FnExactCensusSaid : Prop := fnExactCensusRow.holds Tryz.pinned (OpenSpec.ofChange fnExactCensusSpec)

/-- ITS FALSE NEIGHBOUR: 'it returns false'. Refute it at one input. -/
def fnExactCensusWrong : ChangeSpec := { name := "fnExactCensus", fn := fun _ => fun
  | [d] => { results := [.lit (.bool false)], args := [d] }
  | _ => none }
def FnExactCensusWrongFalsely : Prop := fnExactCensusRow.holds Tryz.pinned (OpenSpec.ofChange fnExactCensusWrong)

/-- 'laws.FnExactEngineNew': WHATEVER THE INPUT: true; the input reads as it did. -/
def fnExactEngineNewSpec : ChangeSpec := { name := "fnExactEngineNew", fn := fun _ => fun
  | [d1, d2] => { results := [.lit (.bool true)], args := [d1, d2] }
  | _ => none }
def fnExactEngineNewRow : OpenClaim := { program := "ytjofbadmkigkjaagreat", sum := "836e9b9cf2c3b38c3ef52ec27503a1863e230015878bf0c9bae3a586606468e5", func := "loop.example/g00112/laws.FnExactEngineNew", spec := "fnExactEngineNew", unfollowed := true, recurses := true, apart := false }
def FnExactEngineNewSaid : Prop := fnExactEngineNewRow.holds Tryz.pinned (OpenSpec.ofChange fnExactEngineNewSpec)

/-- ITS FALSE NEIGHBOUR: 'it returns false'. Refute it at one input. -/
def fnExactEngineNewWrong : ChangeSpec := { name := "fnExactEngineNew", fn := fun _ => fun
  | [d1, d2] => { results := [.lit (.bool false)], args := [d1, d2] }
  | _ => none }
def FnExactEngineNewWrongFalsely : Prop := fnExactEngineNewRow.holds Tryz.pinned (OpenSpec.ofChange fnExactEngineNewWrong)

/-- 'laws.FnExactStreamOf': WHATEVER THE INPUT: true; the input reads as it did. -/
def fnExactStreamOfSpec : ChangeSpec := { name := "fnExactStreamOf", fn := fun _ => fun
  | [d1, d2] => { results := [.lit (.bool true)], args := [d1, d2] }
  | _ => none }
def fnExactStreamOfRow : OpenClaim := { program := "ytjofbadmkigkjaagreat", sum := "836e9b9cf2c3b38c3ef52ec27503a1863e230015878bf0c9bae3a586606468e5", func := "loop.example/g00112/laws.FnExactStreamOf", spec := "fnExactStreamOf", inPlace := ["internal/bytealg.IndexByteString", "internal/bytealg.IndexString"], unfollowed := true, recurses := true, named := ["internal/bytealg.MaxLen"], apart := false }
def FnExactStreamOfSaid : Prop := fnExactStreamOfRow.holds Tryz.pinned (OpenSpec.ofChange fnExactStreamOfSpec)

/-- ITS FALSE NEIGHBOUR: 'it returns false'. Refute it at one input. -/
def fnExactStreamOfWrong : ChangeSpec := { name := "fnExactStreamOf", fn := fun _ => fun
  | [d1, d2] => { results := [.lit (.bool false)], args := [d1, d2] }
  | _ => none }
def FnExactStreamOfWrongFalsely : Prop := fnExactStreamOfRow.holds Tryz.pinned (OpenSpec.ofChange fnExactStreamOfWrong)

/-- 'laws.FnExactEvict': WHATEVER THE INPUT: true; the input reads as it did. -/
def fnExactEvictSpec : ChangeSpec := { name := "fnExactEvict", fn := fun _ => fun
  | [d1, d2] => { results := [.lit (.bool true)], args := [d1, d2] }
  | _ => none }
def fnExactEvictRow : OpenClaim := { program := "ytjofbadmkigkjaagreat", sum := "836e9b9cf2c3b38c3ef52ec27503a1863e230015878bf0c9bae3a586606468e5", func := "loop.example/g00112/laws.FnExactEvict", spec := "fnExactEvict", unfollowed := true, recurses := true, apart := false }
def FnExactEvictSaid : Prop := fnExactEvictRow.holds Tryz.pinned (OpenSpec.ofChange fnExactEvictSpec)

/-- ITS FALSE NEIGHBOUR: 'it returns false'. Refute it at one input. -/
def fnExactEvictWrong : ChangeSpec := { name := "fnExactEvict", fn := fun _ => fun
  | [d1, d2] => { results := [.lit (.bool false)], args := [d1, d2] }
  | _ => none }
def FnExactEvictWrongFalsely : Prop := fnExactEvictRow.holds Tryz.pinned (OpenSpec.ofChange fnExactEvictWrong)

/-- 'laws.FnExactCancel': WHATEVER THE INPUT: true; the input reads as it did. -/
def fnExactCancelSpec : ChangeSpec := { name := "fnExactCancel", fn := fun _ => fun
  | [d1, d2] => { results := [.lit (.bool true)], args := [d1, d2] }
  | _ => none }
def fnExactCancelRow : OpenClaim := { program := "ytjofbadmkigkjaagreat", sum := "836e9b9cf2c3b38c3ef52ec27503a1863e230015878bf0c9bae3a586606468e5", func := "loop.example/g00112/laws.FnExactCancel", spec := "fnExactCancel", unfollowed := true, recurses := true, apart := false }
def FnExactCancelSaid : Prop := fnExactCancelRow.holds Tryz.pinned (OpenSpec.ofChange fnExactCancelSpec)

/-- ITS FALSE NEIGHBOUR: 'it returns false'. Refute it at one input. -/
def fnExactCancelWrong : ChangeSpec := { name := "fnExactCancel", fn := fun _ => fun
  | [d1, d2] => { results := [.lit (.bool false)], args := [d1, d2] }
  | _ => none }
def FnExactCancelWrongFalsely : Prop := fnExactCancelRow.holds Tryz.pinned (OpenSpec.ofChange fnExactCancelWrong)

/-- 'laws.FnExactSubmit': WHATEVER THE INPUT: true; the input reads as it did. -/
def fnExactSubmitSpec : ChangeSpec := { name := "fnExactSubmit", fn := fun _ => fun
  | [d1, d2, d3] => { results := [.lit (.bool true)], args := [d1, d2, d3] }
  | _ => none }
def fnExactSubmitRow : OpenClaim := { program := "ytjofbadmkigkjaagreat", sum := "836e9b9cf2c3b38c3ef52ec27503a1863e230015878bf0c9bae3a586606468e5", func := "loop.example/g00112/laws.FnExactSubmit", spec := "fnExactSubmit", unfollowed := true, recurses := true, apart := false }
def FnExactSubmitSaid : Prop := fnExactSubmitRow.holds Tryz.pinned (OpenSpec.ofChange fnExactSubmitSpec)

/-- ITS FALSE NEIGHBOUR: 'it returns false'. Refute it at one input. -/
def fnExactSubmitWrong : ChangeSpec := { name := "fnExactSubmit", fn := fun _ => fun
  | [d1, d2, d3] => { results := [.lit (.bool false)], args := [d1, d2, d3] }
  | _ => none }
def FnExactSubmitWrongFalsely : Prop := fnExactSubmitRow.holds Tryz.pinned (OpenSpec.ofChange fnExactSubmitWrong)

/- THE SECOND FORM. 'bulk': how many values and letters a reading holds, each counted each time it is reached (what is shared counts as often as it is met; a slice's spare places count too). A statement '..UptoSaid' is the law's where the arguments, and the package variables that the reading takes, are together of bulk at most 1048576: NARROWER than '..Said'. Prove '..Said' where nothing that the law and all that it calls make is longer than what came in: it says more and counts as full. Else prove '..UptoSaid'. A law counts once. -/
mutual
def uptoBulk {H : Type} : DataW H → Nat
  | .lit (.string bytes) => bytes.length + 1
  | .lit _ => 1
  | .nil => 1
  | .ptr d => uptoBulk d + 1
  | .slice elems spare => uptoBulkAll elems + uptoBulkAll spare + 1
  | .agg parts => uptoBulkAll parts + 1
  | .iface _ d => uptoBulk d + 1
  | .map entries => uptoBulkEntries entries + 1
  | .held _ => 1
def uptoBulkAll {H : Type} : List (DataW H) → Nat
  | [] => 0
  | d :: r => uptoBulk d + uptoBulkAll r
def uptoBulkEntries {H : Type} : List (Lit × DataW H) → Nat
  | [] => 0
  | x :: r => uptoBulkEntry x + uptoBulkEntries r
def uptoBulkEntry {H : Type} : Lit × DataW H → Nat
  | (.string bytes, d) => bytes.length + uptoBulk d + 1
  | (_, d) => uptoBulk d + 1
 end
def uptoSmall : (H : Type) → List (DataW H) → Bool := fun _ ds => decide (uptoBulkAll ds ≤ 1048576)
def OpenSpec.upto (s : _root_.Go.ChangeSpec) : _root_.Go.OpenSpec := { _root_.Go.OpenSpec.ofChange s with cond := some uptoSmall }

/-- 'laws.FnFresh', WHERE WHAT IT READS IS OF BULK AT MOST 1048576: true; the input reads as it did. -/
def fnFreshUptoRow : OpenClaim := { program := "ytjofbadmkigkjaagreat", sum := "836e9b9cf2c3b38c3ef52ec27503a1863e230015878bf0c9bae3a586606468e5", func := "loop.example/g00112/laws.FnFresh", spec := "fnFresh", unfollowed := true, recurses := true, apart := false, narrowed := true }
def FnFreshUptoSaid : Prop := fnFreshUptoRow.holds Tryz.pinned (OpenSpec.upto fnFreshSpec)

/-- 'laws.FnExactEngineOk', WHERE WHAT IT READS IS OF BULK AT MOST 1048576: true; the input reads as it did. -/
def fnExactEngineOkUptoRow : OpenClaim := { program := "ytjofbadmkigkjaagreat", sum := "836e9b9cf2c3b38c3ef52ec27503a1863e230015878bf0c9bae3a586606468e5", func := "loop.example/g00112/laws.FnExactEngineOk", spec := "fnExactEngineOk", unfollowed := true, recurses := true, apart := false, narrowed := true }
def FnExactEngineOkUptoSaid : Prop := fnExactEngineOkUptoRow.holds Tryz.pinned (OpenSpec.upto fnExactEngineOkSpec)

/-- 'laws.FnExactCensus', WHERE WHAT IT READS IS OF BULK AT MOST 1048576: true; the input reads as it did. -/
def fnExactCensusUptoRow : OpenClaim := { program := "ytjofbadmkigkjaagreat", sum := "836e9b9cf2c3b38c3ef52ec27503a1863e230015878bf0c9bae3a586606468e5", func := "loop.example/g00112/laws.FnExactCensus", spec := "fnExactCensus", unfollowed := true, recurses := true, apart := false, narrowed := true }
def FnExactCensusUptoSaid : Prop := fnExactCensusUptoRow.holds Tryz.pinned (OpenSpec.upto fnExactCensusSpec)

/-- 'laws.FnExactEngineNew', WHERE WHAT IT READS IS OF BULK AT MOST 1048576: true; the input reads as it did. -/
def fnExactEngineNewUptoRow : OpenClaim := { program := "ytjofbadmkigkjaagreat", sum := "836e9b9cf2c3b38c3ef52ec27503a1863e230015878bf0c9bae3a586606468e5", func := "loop.example/g00112/laws.FnExactEngineNew", spec := "fnExactEngineNew", unfollowed := true, recurses := true, apart := false, narrowed := true }
def FnExactEngineNewUptoSaid : Prop := fnExactEngineNewUptoRow.holds Tryz.pinned (OpenSpec.upto fnExactEngineNewSpec)

/-- 'laws.FnExactStreamOf', WHERE WHAT IT READS IS OF BULK AT MOST 1048576: true; the input reads as it did. -/
def fnExactStreamOfUptoRow : OpenClaim := { program := "ytjofbadmkigkjaagreat", sum := "836e9b9cf2c3b38c3ef52ec27503a1863e230015878bf0c9bae3a586606468e5", func := "loop.example/g00112/laws.FnExactStreamOf", spec := "fnExactStreamOf", inPlace := ["internal/bytealg.IndexByteString", "internal/bytealg.IndexString"], unfollowed := true, recurses := true, named := ["internal/bytealg.MaxLen"], apart := false, narrowed := true }
def FnExactStreamOfUptoSaid : Prop := fnExactStreamOfUptoRow.holds Tryz.pinned (OpenSpec.upto fnExactStreamOfSpec)

/-- 'laws.FnExactEvict', WHERE WHAT IT READS IS OF BULK AT MOST 1048576: true; the input reads as it did. -/
def fnExactEvictUptoRow : OpenClaim := { program := "ytjofbadmkigkjaagreat", sum := "836e9b9cf2c3b38c3ef52ec27503a1863e230015878bf0c9bae3a586606468e5", func := "loop.example/g00112/laws.FnExactEvict", spec := "fnExactEvict", unfollowed := true, recurses := true, apart := false, narrowed := true }
def FnExactEvictUptoSaid : Prop := fnExactEvictUptoRow.holds Tryz.pinned (OpenSpec.upto fnExactEvictSpec)

/-- 'laws.FnExactCancel', WHERE WHAT IT READS IS OF BULK AT MOST 1048576: true; the input reads as it did. -/
def fnExactCancelUptoRow : OpenClaim := { program := "ytjofbadmkigkjaagreat", sum := "836e9b9cf2c3b38c3ef52ec27503a1863e230015878bf0c9bae3a586606468e5", func := "loop.example/g00112/laws.FnExactCancel", spec := "fnExactCancel", unfollowed := true, recurses := true, apart := false, narrowed := true }
def FnExactCancelUptoSaid : Prop := fnExactCancelUptoRow.holds Tryz.pinned (OpenSpec.upto fnExactCancelSpec)

/-- 'laws.FnExactSubmit', WHERE WHAT IT READS IS OF BULK AT MOST 1048576: true; the input reads as it did. -/
def fnExactSubmitUptoRow : OpenClaim := { program := "ytjofbadmkigkjaagreat", sum := "836e9b9cf2c3b38c3ef52ec27503a1863e230015878bf0c9bae3a586606468e5", func := "loop.example/g00112/laws.FnExactSubmit", spec := "fnExactSubmit", unfollowed := true, recurses := true, apart := false, narrowed := true }
def FnExactSubmitUptoSaid : Prop := fnExactSubmitUptoRow.holds Tryz.pinned (OpenSpec.upto fnExactSubmitSpec)

end Rows
end Go.Proofs.YtjofbadmkigkjaaGreat
