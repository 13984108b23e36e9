/- Proved: the program's ConfigOk returns what the reference's returns, for every config, and leaves its argument as it was. No condition. -/
import Derived.Test.YtdakdjpndomdpaaRows
import Derived.Test.YtdakdjpndomdpaaCh
import Derived.Test.YtdakdjpndomdpaaAi19
import Derived.WalkKit
import Derived.ProofKit
import Derived.OpenShut
import Derived.ShutString
import Derived.ChangeOld
import Derived.Below
import Derived.SizedLaws
import Derived.SliceStrings
namespace Go.Proofs.Ytdakdjpndomdpaa.fnExactConfigOk
open Go.ChangeShapes Go.WideShapes Go.ChangeAt Go.RowKit Go.Ai
open Go.ChangeMaps (open_string shut_string)
set_option linter.unusedVariables false
theorem list4 {α : Type} {l : List α} (h : l.length = 4) : ∃ a b c d, l = [a, b, c, d] := by
  match l, h with
  | [a, b, c, d], _ => exact ⟨a, b, c, d, rfl⟩
theorem max_eq : maxLen = 9223372036854775807 := by decide
theorem own : ownKnob Try.prog.godebug = none := by kernel_rfl
theorem laidOut : laidOutB Try.prog = true := by kernel_rfl
set_option maxRecDepth 100000 in
set_option maxHeartbeats 400000 in
theorem lifted (os : Os) (started : os.Started) (H : Type) (enc : TypeId × Value → H) :
    ReturnsInHanded {} Try.checked os 6 .any (Rows.fnExactConfigOkSpec.pre6 enc Try.prog Try.f6 Rows.fnExactConfigOkRow.domain false) (Rows.fnExactConfigOkSpec.post enc Try.prog Try.f6 false true false false) := by
  refine returnsInHanded_of_change_sized (C := Try.checked) own started (by kernel_rfl) Try.func6
    (ChangeSpec.witness6 (enc := enc) (C := Try.checked) false ⟨#[], #[.agg #[.int .i64 0, .int .i64 0, .int .i64 0, .slice none 0 0]], []⟩ 8 (by kernel_rfl) (by kernel_rfl) (by kernel_rfl) (by kernel_rfl)) ?_
  intro W base args ds gs before hval0 hW hcnd hsz0 _
  have hsz : (DataW.weightsEach Try.prog (Try.f6.params.toList ++ Rows.fnExactConfigOkSpec.plain.varTypes Try.prog) (ds ++ gs)).all (· ≤ reachBytes) = true := hsz0
  have hval : ∀ (j : Nat) t v, Try.f6.params[j]? = some t → args[j]? = some v → Value.okWide Try.prog W .any base t v := hval0
  have hW' := hW
  obtain ⟨p, q, hA0, hV, rfl, hfz, hnd⟩ := hW
  have hA : DataW.TrodAll enc Try.prog W 0 (fun _ => true) true Try.f6.params.toList args.toList ds p := hA0
  rw [Try.params6] at hA hval hsz
  obtain ⟨v0, vs0, d0, ds0, p0, q0, hargs, rfl, rfl, h0', r0⟩ := trodAll_cons hA
  obtain ⟨rfl, rfl, rfl⟩ := trodAll_nil r0
  obtain rfl : args = #[v0] := by cases args; simp_all
  obtain ⟨rfl, rfl⟩ := trodVars_none hV
  have hw0 := hval 0 33 v0 rfl rfl
  have k0 := h0'
  have lt0 : ∀ x ∈ p0, x.block < W.heap.size := by obtain ⟨m, hm⟩ := k0; exact DataW.trod_lt m _ _ _ hm
  obtain ⟨cs, rfl, hsz4, hrow⟩ : ∃ cs, v0 = .agg cs ∧ cs.size = Try.prog.cellsOf 33 ∧ Row.okWide Try.prog W .any base 33 cs := by
    simpa only [Value.okWide, Try.underlying33] using hw0
  obtain ⟨top, seed, new, a0, len0, cap0, ss, rfl, row0, hf0, hn0⟩ : ∃ (top seed new : Int) (a0 : Option Addr) (len0 cap0 : Nat) (ss : List ByteArray), cs = [.int .i64 top, .int .i64 seed, .int .i64 new, .slice a0 len0 cap0].toArray ∧ Row1 (Go.Ai.h0 W) a0 len0 (ss.map .string) ∧ fine W.heap.size (.slice a0 len0 cap0) = true ∧ len0 ≤ 9223372036854775807 := by
    obtain ⟨fuel, hf⟩ := h0'
    obtain ⟨xs, m, _, hx, hl, hlen, hfs⟩ := DataW.trod_struct Try.underlying33 hf
    have e0 : Try.prog.cellsOf 33 = 4 := by kernel_rfl
    have e1 : Try.prog.cellsOf 3 = 1 := by kernel_rfl
    have e2 : Try.prog.cellsOf 31 = 1 := by kernel_rfl
    rw [e0] at hsz4
    have hlen' : xs.length = 4 := by rw [hlen]; rfl
    obtain ⟨y0, y1, y2, y3, rfl⟩ := list4 hlen'
    obtain ⟨c0, c1, c2, c3, hcs0⟩ := list4 (l := cs.toList) (by simpa using hsz4)
    obtain rfl : cs = [c0, c1, c2, c3].toArray := by rw [← hcs0]
    clear hlen hlen' hcs0 hsz4
    have f0 := hfs 0 _ rfl
    have f1 := hfs 1 _ rfl
    have f2 := hfs 2 _ rfl
    have f3 := hfs 3 _ rfl
    simp [Value.cells, e1, e2] at f0 f1 f2 f3
    obtain ⟨top, g0, _⟩ := DataW.trod_int Try.underlying3 f0
    obtain ⟨seed, g1, _⟩ := DataW.trod_int Try.underlying3 f1
    obtain ⟨new, g2, _⟩ := DataW.trod_int Try.underlying3 f2
    simp at g0 g1 g2
    subst g0 g1 g2
    have hfine : fine W.heap.size c3 = true := by
      obtain ⟨ts, ht, _, hcell⟩ := hrow
      have ht2 : Try.prog.cellTypes Try.prog.depth 33 = some [3, 3, 3, 31] := by kernel_rfl
      rw [ht2] at ht
      cases ht
      obtain ⟨u, hu, hok⟩ := hcell 3 c3 (by simp)
      have hu : u = 31 := by simpa using hu.symm
      subst hu
      exact okWide_row (t := 31) Try.underlying31 (by simpa only [Value.okWide, Try.underlying31] using hok)
    rcases open_strings Try.underlying31 Try.underlying9 (by kernel_rfl) f3 with ⟨hcs, _⟩ | ⟨x, l, c, ss, hcs, _, hlc, hmc, hz, _, hcell, hwz⟩
    · simp at hcs
      subst hcs
      exact ⟨top, seed, new, none, 0, 0, [], rfl, ⟨rfl, fun i hi => by omega⟩, rfl, by omega⟩
    · simp at hcs
      subst hcs
      have hspot : x.spot = none := by simp [fine] at hfine; exact hfine.1
      have hlen2 : l ≤ ss.length := by rw [hz]; simpa using hlc
      refine ⟨top, seed, new, some x, l, c, ss.take l, rfl, ⟨by simp; omega, fun i hi => ?_⟩, hfine, by have := max_eq; omega⟩
      obtain ⟨e1, e2, cs, e3, e4⟩ := h0_cell hspot (hcell i (by omega)) rfl
      refine ⟨_, _, _, _, cs, congrArg some e1, e3, e2, ?_⟩
      rw [e4, List.getElem?_map, List.getElem?_take, if_pos hi, List.getElem?_eq_getElem (by omega)]
      simp [List.getD_eq_getElem?_getD, List.getElem?_eq_getElem (show i < ss.length by omega)]
  clear hA0 hval0 hsz0 hsz
  refine (call_true (lawConfigOk_ok row0 hn0) (fun v h hv => hv) (by
    intro v hv; simp at hv; subst hv
    exact ⟨_, rfl, .cons rfl (.cons rfl (.cons rfl (.cons (fine_RS hf0) .nil)))⟩)).mono fun e W' ⟨he, bel⟩ => ?_
  subst he
  exact ⟨_, rfl, _, _, _, [], _, [], hW', trodAll_mk1 (shut_bool Try.underlying4 _), (trodAll_cons_mk (Below.trod laidOut (by kernel_rfl) (of_decide_eq_true (by kernel_rfl)) k0 bel lt0) trodAll_mk0), rfl, bel.frame _, fun h => by cases h⟩
theorem over : Rows.fnExactConfigOkRow.holds Try.pinned (OpenSpec.ofChange Rows.fnExactConfigOkSpec) :=
  OpenClaim.holds_of_wide 6 Try.f6 rfl rfl rfl rfl rfl rfl rfl ⟨rfl, rfl, rfl, rfl, rfl⟩ rfl rfl rfl rfl rfl (by kernel_rfl) Try.func6 (by kernel_rfl)
    (of_decide_eq_true (by kernel_rfl)) (by unfold Func.isWrapper; first | (rw [if_pos (by decide +kernel)]; kernel_rfl) | (rw [if_neg (by decide +kernel)]; exact ⟨rfl, rfl⟩))
    (fun os started H enc _ => lifted os started H enc)
end Go.Proofs.Ytdakdjpndomdpaa.fnExactConfigOk
namespace Go.Proofs.Ytdakdjpndomdpaa
theorem fnExactConfigOk_holds : Rows.FnExactConfigOkSaid := fnExactConfigOk.over
end Go.Proofs.Ytdakdjpndomdpaa
#print axioms Go.Proofs.Ytdakdjpndomdpaa.fnExactConfigOk_holds
