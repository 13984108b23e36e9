/- The walk of the program's TopOf. -/
import Derived.Test.YtdakdjpndomdpaaFf
import Derived.Test.YtdakdjpndomdpaaEe
set_option linter.unusedSimpArgs false
set_option linter.unusedVariables false
set_option maxRecDepth 20000
namespace Go.Bi
open Go.Proofs
open Go.Ai (wrap_i64 wrap_u64 wrap_u8 Heap)
variable {W0 : World} {P : Program}
set_option maxHeartbeats 4000000
theorem sortStable_ok {r c : Nat} {zs l : List Int} {f : Adr} {g : H2} (hcr : c ≠ r) (h3 : zs.length ≤ 400) (hrow : hg g r .mk = some ⟨1, l.map cI⟩) (hbox : hg g c .mk = some ⟨1, [.sl f 1 (ints zs)]⟩) (hl : l.length = zs.length)
    (hid : ∀ i, i < l.length → lat l i = i) :
    WC2 Try.prog W0 72 [.raw (.slice (some ⟨r, 0, none⟩) l.length l.length), .raw (.func (.func 73) #[] [.pointer (some ⟨c, 0, none⟩)].toArray)] g
      (fun v g' => ∃ l', hg g' r .mk = some ⟨1, l'.map cI⟩ ∧ l'.length = l.length ∧ Good (keyZ zs) l' 0 l.length ∧ Same g g' r) := by
  refine start (P := Try.prog) [[0, 1]] (by kernel_rfl) Try.func72 rfl (by decide) (by decide +kernel) (rs := []) rfl rfl (Nat.le_of_ble_eq_true rfl) ?_
  intro wf
  repeat (first | rw [kz_o] | rw [kz_r0] | simp -dsimp -implicitDefEqProofs only [go_sem, Nat.reduceBEq, Nat.reduceAdd, Nat.reduceLeDiff, Nat.reduceMul, Int.reduceLE, Int.reduceLT, Int.reduceBEq])
  refine wz_intro (stable_ok hcr h3 hrow hbox hl hid) ?_
  rintro v g2 ⟨l', h1, h2, h4, h5⟩
  repeat (first | rw [kz_o] | rw [kz_r0] | simp -dsimp -implicitDefEqProofs only [go_sem, Nat.reduceBEq, Nat.reduceAdd, Nat.reduceLeDiff, Nat.reduceMul, Int.reduceLE, Int.reduceLT, Int.reduceBEq])
  exact ⟨l', h1, h2, h4, h5⟩
end Go.Bi
