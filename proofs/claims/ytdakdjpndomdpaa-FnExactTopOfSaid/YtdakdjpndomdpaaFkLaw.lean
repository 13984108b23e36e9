/- Proved: the program's TopOf returns what the reference's returns, for every list and number, and leaves the list as it was. No condition. -/
import Derived.Test.YtdakdjpndomdpaaRows
import Derived.Test.YtdakdjpndomdpaaFk
import Derived.Test.YtdakdjpndomdpaaBh
import Derived.WalkKit
import Derived.ProofKit
import Derived.OpenShut
import Derived.ShutString
import Derived.ChangeOld
import Derived.Below
import Derived.SizedLaws
import Derived.SliceStrings
namespace Go.Proofs.Ytdakdjpndomdpaa.fnExactTopOf
open Go.ChangeShapes Go.WideShapes Go.ChangeAt Go.RowKit
open Go.ChangeMaps (open_string shut_string)
open Go.Bi
open Go.Ai (h0 ι0 fine fine_RS okWide_row RS R RG All2)
set_option linter.unusedVariables false
set_option linter.unusedSimpArgs false
theorem own : ownKnob Try.prog.godebug = none := by kernel_rfl
theorem laidOut : laidOutB Try.prog = true := by kernel_rfl
set_option maxRecDepth 100000 in
set_option maxHeartbeats 400000 in
theorem lifted (os : Os) (started : os.Started) (H : Type) (enc : TypeId × Value → H) :
    ReturnsInHanded {} Try.checked os 8 .any (Rows.fnExactTopOfSpec.pre6 enc Try.prog Try.f8 Rows.fnExactTopOfRow.domain false) (Rows.fnExactTopOfSpec.post enc Try.prog Try.f8 false true false false) := by
  refine returnsInHanded_of_change_sized (C := Try.checked) own started (by kernel_rfl) Try.func8
    (ChangeSpec.witness6 (enc := enc) (C := Try.checked) false ⟨#[], #[.slice none 0 0, .int .i64 0], []⟩ 8 (by kernel_rfl) (by kernel_rfl) (by kernel_rfl) (by kernel_rfl)) ?_
  intro W base args ds gs before hval0 hW hcnd hsz0 _
  have hsz : (DataW.weightsEach Try.prog (Try.f8.params.toList ++ Rows.fnExactTopOfSpec.plain.varTypes Try.prog) (ds ++ gs)).all (· ≤ reachBytes) = true := hsz0
  have hval : ∀ (j : Nat) t v, Try.f8.params[j]? = some t → args[j]? = some v → Value.okWide Try.prog W .any base t v := hval0
  have hW' := hW
  obtain ⟨p, q, hA0, hV, rfl, hfz, hnd⟩ := hW
  have hA : DataW.TrodAll enc Try.prog W 0 (fun _ => true) true Try.f8.params.toList args.toList ds p := hA0
  rw [Try.params8] at hA hval hsz
  obtain ⟨v0, vs0, d0, ds0, p0, q0, hargs, rfl, rfl, h0', r0⟩ := trodAll_cons hA
  obtain ⟨v1, vs1, d1, ds1, p1, q1, rfl, rfl, rfl, h1', r1⟩ := trodAll_cons r0
  obtain ⟨rfl, rfl, rfl⟩ := trodAll_nil r1
  obtain rfl : args = #[v0, v1] := by cases args; simp_all
  obtain ⟨rfl, rfl⟩ := trodVars_none hV
  have hw0 := hval 0 40 v0 rfl rfl
  have k0 := h0'
  have lt0 : ∀ x ∈ p0, x.block < W.heap.size := by obtain ⟨m, hm⟩ := k0; exact DataW.trod_lt m _ _ _ hm
  have hw1 := hval 1 3 v1 rfl rfl
  have k1 := h1'
  have lt1 : ∀ x ∈ p1, x.block < W.heap.size := by obtain ⟨m, hm⟩ := k1; exact DataW.trod_lt m _ _ _ hm
  obtain ⟨a0, len0, cap0, rfl⟩ := okWide_slice Try.underlying40 hw0
  have hc0 : Cell.okWide Try.prog W .any base 40 (.slice a0 len0 cap0) := by simpa only [Value.okWide, Try.underlying40] using hw0
  have hfi0 := okWide_row Try.underlying40 hw0
  obtain ⟨f0, z0, hv0, hf0, ok0⟩ : ∃ (f : Adr) (zs : List Int), f [] = .slice a0 len0 cap0 ∧ zs.length ≤ 9223372036854775807 ∧ Ok (h0 W) (g0 W) (.sl f 1 (ints zs)) := by
    obtain ⟨fuel, hf⟩ := h0'
    exact arg_ints Try.underlying40 Try.underlying3 (by kernel_rfl) hc0 hf
  obtain ⟨n1, rfl, _, _, w1⟩ := open_int Try.underlying3 hw1 h1'
  clear hA0 hval0 hsz0 hsz
  have hall : ∀ x ∈ [.sl f0 1 (ints z0), .raw (.int .i64 n1)], Ok (h0 W) (g0 W) x := by
    intro x hx
    simp only [List.mem_cons, List.not_mem_nil, or_false] at hx
    rcases hx with rfl | rfl
    · exact ok0
    · exact .raw
  have hrs : ∀ v ∈ [.sl f0 1 (ints z0), .raw (.int .i64 n1)].map Bi.er, R (ι0 W) v v := by
    intro v hv
    simp only [List.map_cons, List.map_nil, List.mem_cons, List.not_mem_nil, or_false] at hv
    rcases hv with rfl | rfl
    · exact (by simp only [Bi.er, hv0]; exact RS.toR (fine_RS hfi0))
    · exact rfl
  have hlaw := law_call (fun g => FnExactTopOf_ok hf0 ) hall hrs
  have hlist : ([.sl f0 1 (ints z0), .raw (.int .i64 n1)].map Bi.er).toArray = #[.slice a0 len0 cap0, .int .i64 n1] := by
    simp only [List.map_cons, List.map_nil, Bi.er, ers_eq, hv0]
  rw [hlist] at hlaw
  refine hlaw.mono fun e W' ⟨he, bel⟩ => ?_
  subst he
  exact ⟨_, rfl, _, _, _, [], _, [], hW', trodAll_mk1 (shut_bool Try.underlying4 _), (trodAll_cons_mk (Below.trod laidOut (by kernel_rfl) (of_decide_eq_true (by kernel_rfl)) k0 bel lt0) (trodAll_cons_mk (Below.trod laidOut (by kernel_rfl) (of_decide_eq_true (by kernel_rfl)) k1 bel lt1) trodAll_mk0)), rfl, bel.frame _, fun h => by cases h⟩
theorem over : Rows.fnExactTopOfRow.holds Try.pinned (OpenSpec.ofChange Rows.fnExactTopOfSpec) :=
  OpenClaim.holds_of_wide 8 Try.f8 rfl rfl rfl rfl rfl rfl rfl ⟨rfl, rfl, rfl, rfl, rfl⟩ rfl rfl rfl rfl rfl (by kernel_rfl) Try.func8 (by kernel_rfl)
    (of_decide_eq_true (by kernel_rfl)) (by unfold Func.isWrapper; first | (rw [if_pos (by decide +kernel)]; kernel_rfl) | (rw [if_neg (by decide +kernel)]; exact ⟨rfl, rfl⟩))
    (fun os started H enc _ => lifted os started H enc)
end Go.Proofs.Ytdakdjpndomdpaa.fnExactTopOf
namespace Go.Proofs.Ytdakdjpndomdpaa
theorem fnExactTopOf_holds : Rows.FnExactTopOfSaid := fnExactTopOf.over
end Go.Proofs.Ytdakdjpndomdpaa
#print axioms Go.Proofs.Ytdakdjpndomdpaa.fnExactTopOf_holds
