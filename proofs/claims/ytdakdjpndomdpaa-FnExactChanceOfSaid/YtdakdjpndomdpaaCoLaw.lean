/- Proved: the program's ChanceOf returns what the reference's returns, for all arguments, leaves them as they were, and shares no memory. No condition. -/
import Derived.Test.YtdakdjpndomdpaaRows
import Derived.Test.YtdakdjpndomdpaaCo
import Derived.Test.YtdakdjpndomdpaaAi19
import Derived.WalkKit
import Derived.ProofKit
import Derived.OpenShut
import Derived.ShutString
import Derived.ChangeOld
import Derived.Below
import Derived.SizedLaws
namespace Go.Proofs.Ytdakdjpndomdpaa.fnExactChanceOf
open Go.ChangeShapes Go.WideShapes Go.ChangeAt Go.RowKit Go.Ai
open Go.ChangeMaps (open_string shut_string)
set_option linter.unusedVariables false
/-- A row of numbers among the arguments, as the abstract machine has it. -/
theorem int_row {W : World} {a : Option Addr} {len cap : Nat} {H : Type} {x : DataW H × List MemPlace} (hf : fine W.heap.size (.slice a len cap) = true)
    (ho : ((Value.slice a len cap).cells.toList = [.slice none 0 0] ∧ x = (.nil, [])) ∨ ∃ (q : Addr) (l c : Nat) (zs : List Int), (Value.slice a len cap).cells.toList = [.slice (some q) l c] ∧ 0 ≤ q.block ∧ l ≤ c ∧ c ≤ maxLen ∧ zs.length = (if true = true then c else l) ∧
      x = (.slice (lits .i64 (zs.take l)) (lits .i64 (zs.drop l)), MemPlace.row q zs.length) ∧ (∀ i, i < zs.length → W.cell? (q.add i) = some (.int .i64 (zs.getD i 0))) ∧ (∀ n ∈ zs, (Lit.int .i64 n).wf = true)) :
    ∃ zs : List Int, Row1 (Go.Ai.h0 W) a len (zs.map (.int .i64)) := by
  rcases ho with ⟨hcs, _⟩ | ⟨q, l, c, zs, hcs, _, hlc, hmc, hz, _, hcell, _⟩
  · simp [Value.cells] at hcs
    obtain ⟨rfl, rfl, rfl⟩ := hcs
    exact ⟨[], rfl, fun i hi => by omega⟩
  · simp [Value.cells] at hcs
    obtain ⟨rfl, rfl, rfl⟩ := hcs
    have hspot : q.spot = none := by simp [fine] at hf; exact hf.1
    have hlen : len ≤ zs.length := by rw [hz]; simpa using hlc
    refine ⟨zs.take len, by simp; omega, fun i hi => ?_⟩
    obtain ⟨e1, e2, cs, e3, e4⟩ := h0_cell hspot (hcell i (by omega)) rfl
    refine ⟨_, _, _, _, cs, congrArg some e1, e3, e2, ?_⟩
    rw [e4, List.getElem?_map, List.getElem?_take, if_pos hi, List.getElem?_eq_getElem (show i < zs.length by omega)]
    simp [List.getD_eq_getElem?_getD, List.getElem?_eq_getElem (show i < zs.length by omega)]
theorem own : ownKnob Try.prog.godebug = none := by kernel_rfl
theorem laidOut : laidOutB Try.prog = true := by kernel_rfl
set_option maxRecDepth 100000 in
theorem lifted (os : Os) (started : os.Started) (H : Type) (enc : TypeId × Value → H) :
    ReturnsInHanded {} Try.checked os 7 .any (Rows.fnExactChanceOfSpec.pre6 enc Try.prog Try.f7 Rows.fnExactChanceOfRow.domain false) (Rows.fnExactChanceOfSpec.post enc Try.prog Try.f7 false true false false) := by
  refine returnsInHanded_of_change_sized (C := Try.checked) own started (by kernel_rfl) Try.func7
    (ChangeSpec.witness6 (enc := enc) (C := Try.checked) false ⟨#[], #[.slice none 0 0, .slice none 0 0], []⟩ 8 (by kernel_rfl) (by kernel_rfl) (by kernel_rfl) (by kernel_rfl)) ?_
  intro W base args ds gs before hval0 hW hcnd hsz0 _
  have hsz : (DataW.weightsEach Try.prog (Try.f7.params.toList ++ Rows.fnExactChanceOfSpec.plain.varTypes Try.prog) (ds ++ gs)).all (· ≤ reachBytes) = true := hsz0
  have hval : ∀ (j : Nat) t v, Try.f7.params[j]? = some t → args[j]? = some v → Value.okWide Try.prog W .any base t v := hval0
  have hW' := hW
  obtain ⟨p, q, hA0, hV, rfl, hfz, hnd⟩ := hW
  have hA : DataW.TrodAll enc Try.prog W 0 (fun _ => true) true Try.f7.params.toList args.toList ds p := hA0
  rw [Try.params7] at hA hval hsz
  obtain ⟨v0, vs0, d0, ds0, p0, q0, hargs, rfl, rfl, h0', r0⟩ := trodAll_cons hA
  obtain ⟨v1, vs1, d1, ds1, p1, q1, rfl, rfl, rfl, h1', r1⟩ := trodAll_cons r0
  obtain ⟨rfl, rfl, rfl⟩ := trodAll_nil r1
  obtain rfl : args = #[v0, v1] := by cases args; simp_all
  obtain ⟨rfl, rfl⟩ := trodVars_none hV
  have hw0 := hval 0 40 v0 rfl rfl
  have hw1 := hval 1 40 v1 rfl rfl
  obtain ⟨a0, len0, cap0, rfl⟩ := okWide_slice Try.underlying40 hw0
  obtain ⟨a1, len1, cap1, rfl⟩ := okWide_slice Try.underlying40 hw1
  have hf0 := okWide_row Try.underlying40 hw0
  have hf1 := okWide_row Try.underlying40 hw1
  have k0 := h0'
  have k1 := h1'
  have lt0 : ∀ x ∈ p0, x.block < W.heap.size := by obtain ⟨m, hm⟩ := k0; exact DataW.trod_lt m _ _ _ hm
  have lt1 : ∀ x ∈ p1, x.block < W.heap.size := by obtain ⟨m, hm⟩ := k1; exact DataW.trod_lt m _ _ _ hm
  obtain ⟨zs0, row0⟩ : ∃ zs : List Int, Row1 (Go.Ai.h0 W) a0 len0 (zs.map (.int .i64)) := by
    obtain ⟨fuel, hf⟩ := h0'
    exact int_row hf0 (open_ints Try.underlying40 Try.underlying3 (by kernel_rfl) hf)
  obtain ⟨zs1, row1⟩ : ∃ zs : List Int, Row1 (Go.Ai.h0 W) a1 len1 (zs.map (.int .i64)) := by
    obtain ⟨fuel, hf⟩ := h1'
    exact int_row hf1 (open_ints Try.underlying40 Try.underlying3 (by kernel_rfl) hf)
  clear hA0 hval0 hsz0 hsz
  refine (call_true (lawChanceOf_ok row0 row1) (fun v h hv => hv) (by
    intro v hv; simp at hv
    rcases hv with rfl | rfl
    · exact RS.toR (fine_RS hf0)
    · exact RS.toR (fine_RS hf1))).mono fun e W' ⟨he, bel⟩ => ?_
  subst he
  exact ⟨_, rfl, _, _, _, [], _, [], hW', trodAll_mk1 (shut_bool Try.underlying4 _), (trodAll_cons_mk (Below.trod laidOut (by kernel_rfl) (of_decide_eq_true (by kernel_rfl)) k0 bel lt0) (trodAll_cons_mk (Below.trod laidOut (by kernel_rfl) (of_decide_eq_true (by kernel_rfl)) k1 bel lt1) trodAll_mk0)), rfl, bel.frame _, fun h => by cases h⟩
theorem over : Rows.fnExactChanceOfRow.holds Try.pinned (OpenSpec.ofChange Rows.fnExactChanceOfSpec) :=
  OpenClaim.holds_of_wide 7 Try.f7 rfl rfl rfl rfl rfl rfl rfl ⟨rfl, rfl, rfl, rfl, rfl⟩ rfl rfl rfl rfl rfl (by kernel_rfl) Try.func7 (by kernel_rfl)
    (of_decide_eq_true (by kernel_rfl)) (by unfold Func.isWrapper; first | (rw [if_pos (by decide +kernel)]; kernel_rfl) | (rw [if_neg (by decide +kernel)]; exact ⟨rfl, rfl⟩))
    (fun os started H enc _ => lifted os started H enc)
end Go.Proofs.Ytdakdjpndomdpaa.fnExactChanceOf
namespace Go.Proofs.Ytdakdjpndomdpaa
theorem fnExactChanceOf_holds : Rows.FnExactChanceOfSaid := fnExactChanceOf.over
end Go.Proofs.Ytdakdjpndomdpaa
#print axioms Go.Proofs.Ytdakdjpndomdpaa.fnExactChanceOf_holds
