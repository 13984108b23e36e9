/- strings.Index, out of the kit's contract. -/
import Derived.Test.YtjofbadmkigkjaaB2
import Derived.Test.YtjofbadmkigkjaaProg
import Derived.Shelf.Strings.Shaped
set_option linter.unusedSimpArgs false
set_option linter.unusedVariables false
set_option maxRecDepth 20000
namespace Go.Proofs
open Go.Shelf
def Try.lays143_ren : Go.Shelf.Ren := ⟨fun | 143 => 65 | 219 => 103 | 217 => 128 | 225 => 129 | 224 => 130 | 267 => 131 | 266 => 142 | 314 => 143 | n => n, fun | 9 => 9 | 3 => 3 | 4 => 4 | 5 => 5 | 46 => 138 | 146 => 197 | 51 => 196 | n => n, fun | 1 => 0 | n => n⟩
theorem Try.lays143 : Go.Proofs.LaysM.n143 Try.prog Try.lays143_ren := {
  mixed := by kernel_rfl
  f143 := Try.func65.trans (congrArg some (by kernel_rfl))
  f217 := Try.func128.trans (congrArg some (by kernel_rfl))
  f219 := Try.func103.trans (congrArg some (by kernel_rfl))
  f224 := Try.func130.trans (congrArg some (by kernel_rfl))
  f225 := Try.func129.trans (congrArg some (by kernel_rfl))
  f266 := Try.func142.trans (congrArg some (by kernel_rfl))
  f267 := Try.func131.trans (congrArg some (by kernel_rfl))
  f314 := Try.func143.trans (congrArg some (by kernel_rfl))
  t3 := Try.underlying3
  a3 := Try.isAgg3
  z3 := Try.sizeOf3
  v3 := Try.zeroValue3
  t4 := Try.underlying4
  a4 := Try.isAgg4
  z4 := Try.sizeOf4
  v4 := Try.zeroValue4
  t5 := Try.underlying5
  a5 := Try.isAgg5
  z5 := Try.sizeOf5
  v5 := Try.zeroValue5
  t9 := Try.underlying9
  a9 := Try.isAgg9
  z9 := Try.sizeOf9
  v9 := Try.zeroValue9
  t46 := Try.underlying138
  a46 := Try.isAgg138
  z46 := Try.sizeOf138
  v46 := Try.zeroValue138
  t51 := Try.underlying196
  a51 := Try.isAgg196
  z51 := Try.sizeOf196
  v51 := Try.zeroValue196
  t146 := Try.underlying197
  a146 := Try.isAgg197
  z146 := Try.sizeOf197
  v146 := Try.zeroValue197
  g1 := by kernel_rfl
  i3 := by kernel_rfl
  i4 := by kernel_rfl
  i5 := by kernel_rfl
  i9 := by kernel_rfl
  i46 := by kernel_rfl
  i51 := by kernel_rfl
  i146 := by kernel_rfl
  m1 := by kernel_rfl
  s1_3 := fun w h => Go.Proofs.cell_of_shapedOpen_int (zero := #[.int .i64 0]) (t := 3) h (of_decide_eq_true (by kernel_rfl)) (by kernel_rfl) rfl (by kernel_rfl) (by kernel_rfl) Try.underlying3 }
end Go.Proofs
namespace Go.Bi
open Go.Proofs
variable {W0 : World} {P : Program}
/-- The one fact on the world that strings.Index reads. -/
def Lng (W0 : World) : Prop := ∃ m, W0.cell? ⟨0, 0, none⟩ = some (.int .i64 m)
theorem lng_of {W : World} (h : W.ShapedOpen Try.prog) : Lng W := Try.lays143.s1_3 W h
theorem index_ok {s t : ByteArray} {g : H2} (hW : Lng W0) (hs : s.size < 4294967281) : WC2 Try.prog W0 65 [.raw (.string s), .raw (.string t)] g (fun x g' => x = .raw (.int .i64 (Lib.index s.data.toList t.data.toList)) ∧ g' = g) := by
  intro h sg _
  refine ⟨by kernel_rfl, fun ι w args' sim ha => ?_⟩
  obtain ⟨m, hm⟩ := hW
  obtain ⟨args'⟩ := args'
  have ha' : args' = [.string s, .string t] := by
    cases ha with
    | cons a b => cases b with
      | cons c d => cases d; 
                    have a' : _ = Value.string s := a
                    have c' : _ = Value.string t := c
                    rw [a', c']
  subst ha'
  have hm' : w.cell? ⟨0, 0, none⟩ = some (.int .i64 m) := by
    rw [← hm]
    unfold World.cell?
    have hlt : 0 < W0.heap.size := by
      by_cases hx : 0 < W0.heap.size
      · exact hx
      · exfalso
        unfold World.cell? at hm
        rw [Array.getElem?_eq_none (by omega)] at hm
        cases hm
    rw [(sim.base _ hlt).2.1]
  refine (Any.strings_Index { Try.lays143 with } s t m w hs hm').mono ?_
  rintro e w' ⟨rfl, rfl⟩
  exact ⟨.int .i64 (Lib.index s.data.toList t.data.toList), _, h, ι, rfl, Go.Ai.Ren.le_refl _, sim, rfl, .raw (.int .i64 (Lib.index s.data.toList t.data.toList)), g, rfl, sg, Ext.refl, .raw, rfl, rfl⟩
end Go.Bi
