/- Proved: the program's Stopped returns what the reference's returns, for all arguments. No condition. -/
import Derived.Test.YtjofbadmkigkjaaRows
import Derived.Test.YtjofbadmkigkjaaKg
import Derived.Test.YtjofbadmkigkjaaBm
import Derived.Test.YtjofbadmkigkjaaHf
import Derived.WalkKit
import Derived.ProofKit
import Derived.OpenShut
import Derived.ShutString
import Derived.ChangeOld
import Derived.Below
import Derived.SizedLaws
import Derived.HandedShaped
namespace Go.Proofs.Ytjofbadmkigkjaa.fnExactStopped
open Go.ChangeShapes Go.WideShapes Go.ChangeAt Go.RowKit
open Go.ChangeMaps (open_string shut_string)
open Go.Bi
open Go.Ai (R h0 ι0)
set_option linter.unusedVariables false
theorem own : ownKnob Try.prog.godebug = none := by kernel_rfl
theorem laidOut : laidOutB Try.prog = true := by kernel_rfl
set_option maxRecDepth 100000 in
set_option maxHeartbeats 1000000 in
theorem lifted (os : Os) (started : os.Started) (H : Type) (enc : TypeId × Value → H) :
    ReturnsInHanded {} Try.checked os 4 .any (Rows.fnExactStoppedSpec.pre6 enc Try.prog Try.f4 Rows.fnExactStoppedRow.domain false) (Rows.fnExactStoppedSpec.post enc Try.prog Try.f4 false true false false) := by
  refine returnsInHanded_of_change_shaped (C := Try.checked) own started (by kernel_rfl) Try.func4
    (ChangeSpec.witness6 (enc := enc) (C := Try.checked) false ⟨#[], #[.agg #[.int .i64 0, .int .i64 0, .int .i64 0, .slice none 0 0, .slice none 0 0, .slice none 0 0, .slice none 0 0, .int .i64 0, .slice none 0 0, .slice none 0 0, .int .i64 0, .int .i64 0, .slice none 0 0, .slice none 0 0], .agg #[.int .i64 0, .int .i64 0, .int .i64 0, .slice none 0 0], .slice none 0 0], []⟩ 8 (by kernel_rfl) (by kernel_rfl) (by kernel_rfl) (by kernel_rfl)) ?_
  intro W base args ds gs before hval0 hW hcnd hsz0 hsh _
  have hval : ∀ (j : Nat) t v, Try.f4.params[j]? = some t → args[j]? = some v → Value.okWide Try.prog W .any base t v := hval0
  have hW' := hW
  obtain ⟨p, q, hA0, hV, rfl, hfz, hnd⟩ := hW
  have hA : DataW.TrodAll enc Try.prog W 0 (fun _ => true) true Try.f4.params.toList args.toList ds p := hA0
  rw [Try.params4] at hA hval
  obtain ⟨v0, vs0, d0, ds0, p0, q0, hargs, rfl, rfl, h0', r0⟩ := trodAll_cons hA
  obtain ⟨v1, vs1, d1, ds1, p1, q1, rfl, rfl, rfl, h1', r1⟩ := trodAll_cons r0
  obtain ⟨v2, vs2, d2, ds2, p2, q2, rfl, rfl, rfl, h2', r2⟩ := trodAll_cons r1
  obtain ⟨rfl, rfl, rfl⟩ := trodAll_nil r2
  obtain rfl : args = #[v0, v1, v2] := by cases args; simp_all
  obtain ⟨rfl, rfl⟩ := trodVars_none hV
  have hw0 := hval 0 46 v0 rfl rfl
  have k0 := h0'
  have lt0 : ∀ x ∈ p0, x.block < W.heap.size := by obtain ⟨m, hm⟩ := k0; exact DataW.trod_lt m _ _ _ hm
  have hw1 := hval 1 47 v1 rfl rfl
  have k1 := h1'
  have lt1 : ∀ x ∈ p1, x.block < W.heap.size := by obtain ⟨m, hm⟩ := k1; exact DataW.trod_lt m _ _ _ hm
  have hw2 := hval 2 27 v2 rfl rfl
  have k2 := h2'
  have lt2 : ∀ x ∈ p2, x.block < W.heap.size := by obtain ⟨m, hm⟩ := k2; exact DataW.trod_lt m _ _ _ hm
  obtain ⟨ts0, F0, ty0, ok0, rs0⟩ := arg_struct (n := 12) Try.underlying46 (by kernel_rfl) hw0 h0'
  obtain ⟨c0, rfl, hf0⟩ := tyModel ty0
  obtain ⟨ts1, F1, ty1, ok1, rs1⟩ := arg_struct (n := 12) Try.underlying47 (by kernel_rfl) hw1 h1'
  obtain ⟨c1, rfl, hf1⟩ := tyConfig ty1
  obtain ⟨es2, f2, ty2, ok2, rs2⟩ := arg_slice (n := 12) Try.underlying27 (by kernel_rfl) hw2 h2'
  obtain ⟨z2, he2, hf2⟩ := tyIntS ty2
  simp only [List.cons.injEq, T.l.injEq, and_true] at he2
  obtain ⟨hz2, rfl⟩ := he2
  rw [hz2] at ok2 rs2
  clear hA0 hval0 hsz0
  have hall : ∀ x ∈ [.st (xModel F0 c0), .st (xConfig F1 c1), .sl f2 1 (ints z2)], Ok (h0 W) (g0 W) x := by
    intro x hx
    simp only [List.mem_cons, List.not_mem_nil, or_false] at hx
    rcases hx with rfl | rfl | rfl
    · exact ok0
    · exact ok1
    · exact ok2
  refine (law_call2 (vs := #[v0, v1, v2]) (fun g => FnExactStopped_ok (lng_of hsh) hf0 hf1 hf2) hall (.cons rs0 (.cons rs1 (.cons rs2 (.nil))))).mono fun e W' ⟨he, bel⟩ => ?_
  subst he
  exact ⟨_, rfl, _, _, _, [], _, [], hW', trodAll_mk1 (shut_bool Try.underlying4 _), (trodAll_cons_mk (Below.trod laidOut (by kernel_rfl) (of_decide_eq_true (by kernel_rfl)) k0 bel lt0) (trodAll_cons_mk (Below.trod laidOut (by kernel_rfl) (of_decide_eq_true (by kernel_rfl)) k1 bel lt1) (trodAll_cons_mk (Below.trod laidOut (by kernel_rfl) (of_decide_eq_true (by kernel_rfl)) k2 bel lt2) trodAll_mk0))), rfl, bel.frame _, fun h => by cases h⟩
theorem over : Rows.fnExactStoppedRow.holds Try.pinned (OpenSpec.ofChange Rows.fnExactStoppedSpec) :=
  OpenClaim.holds_of_wide 4 Try.f4 rfl rfl rfl rfl rfl rfl rfl ⟨rfl, rfl, rfl, rfl, rfl⟩ rfl rfl rfl rfl rfl (by kernel_rfl) Try.func4 (by kernel_rfl)
    (of_decide_eq_true (by kernel_rfl)) (by unfold Func.isWrapper; first | (rw [if_pos (by decide +kernel)]; kernel_rfl) | (rw [if_neg (by decide +kernel)]; exact ⟨rfl, rfl⟩))
    (fun os started H enc _ => lifted os started H enc)
end Go.Proofs.Ytjofbadmkigkjaa.fnExactStopped
namespace Go.Proofs.Ytjofbadmkigkjaa
theorem fnExactStopped_holds : Rows.FnExactStoppedSaid := fnExactStopped.over
end Go.Proofs.Ytjofbadmkigkjaa
#print axioms Go.Proofs.Ytjofbadmkigkjaa.fnExactStopped_holds
