/- strings.Index, out of the kit's contract. -/
import Derived.Test.YtjofbadmkigkjaaB2
import Derived.Test.YtjofbadmkigkjaaProg
import Derived.Shelf.Strings.Shaped
import Derived.Shelf.Lay
set_option linter.unusedSimpArgs false
set_option linter.unusedVariables false
set_option maxRecDepth 20000
namespace Go.Proofs
open Go.Shelf
shelf_lay LaysM.n143 Nm 143 at Try as Try.lays143
end Go.Proofs
namespace Go.Bi
open Go.Proofs
variable {W0 : World} {P : Program}
/-- The one fact on the world that strings.Index reads. -/
def Lng (W0 : World) : Prop := ∃ m, W0.cell? ⟨0, 0, none⟩ = some (.int .i64 m)
theorem lng_of {W : World} (h : W.ShapedOpen Try.prog) : Lng W := Try.lays143.s1_3 W h
theorem index_ok {s t : ByteArray} {g : H2} (hW : Lng W0) (hs : s.size < 4294967281) : WC2 Try.prog W0 65 [.raw (.string s), .raw (.string t)] g (fun x g' => x = .raw (.int .i64 (Lib.index s.data.toList t.data.toList)) ∧ g' = g) := by
  intro h sg _
  refine ⟨by kernel_rfl, fun ι w args' sim ha => ?_⟩
  obtain ⟨m, hm⟩ := hW
  obtain ⟨args'⟩ := args'
  have ha' : args' = [.string s, .string t] := by
    cases ha with
    | cons a b => cases b with
      | cons c d => cases d; 
                    have a' : _ = Value.string s := a
                    have c' : _ = Value.string t := c
                    rw [a', c']
  subst ha'
  have hm' : w.cell? ⟨0, 0, none⟩ = some (.int .i64 m) := by
    rw [← hm]
    unfold World.cell?
    have hlt : 0 < W0.heap.size := by
      by_cases hx : 0 < W0.heap.size
      · exact hx
      · exfalso
        unfold World.cell? at hm
        rw [Array.getElem?_eq_none (by omega)] at hm
        cases hm
    rw [(sim.base _ hlt).2.1]
  refine (Any.strings_Index { Try.lays143 with } s t m w hs hm').mono ?_
  rintro e w' ⟨rfl, rfl⟩
  exact ⟨.int .i64 (Lib.index s.data.toList t.data.toList), _, h, ι, rfl, Go.Ai.Ren.le_refl _, sim, rfl, .raw (.int .i64 (Lib.index s.data.toList t.data.toList)), g, rfl, sg, Ext.refl, .raw, rfl, rfl⟩
end Go.Bi
