/- Both sides of TopOf, over rows of one's own. -/
import Derived.Test.YtdakdjpndomdpaaFi
import Derived.Test.YtdakdjpndomdpaaBg
set_option linter.unusedSimpArgs false
set_option linter.unusedVariables false
namespace Go.Bi
open Go.Proofs
variable {W0 : World} {P : Program}
theorem topI_len {zs : List Int} {k : Int} : (topI zs k).length ≤ zs.length := by
  unfold topI; split
  · rw [topP_len]; exact Nat.min_le_right _ _
  · exact Nat.zero_le _
theorem implTopOf_tree {zs : List Int} {k : Int} {g : H2} {bs : List Nat} {y : X} (o : OT g bs y (.l 1 (ints zs))) (hs : zs.length ≤ 1048576) : NewT Try.prog W0 33 [y, .raw (.int .i64 k)] g (.l 1 (ints (topI zs k))) := by
  obtain ⟨F, hF⟩ := o.lent
  exact (PI.lend (.cons hF (.cons lent_raw .nil)) implTopOf_ok).mono fun x g' ⟨h1, h2⟩ => ⟨h1, OwnI.tree h2⟩
theorem specTopOf_tree {zs : List Int} {k : Int} {g : H2} {bs : List Nat} {y : X} (o : OT g bs y (.l 1 (ints zs))) (hs : zs.length ≤ 1048576) : NewT Try.prog W0 32 [y, .raw (.int .i64 k)] g (.l 1 (ints (topI zs k))) := by
  obtain ⟨F, hF⟩ := o.lent
  exact (PI.lend (.cons hF (.cons lent_raw .nil)) (specTopOf_ok hs)).mono fun x g' ⟨h1, h2⟩ => ⟨h1, OwnI.tree h2⟩
end Go.Bi
