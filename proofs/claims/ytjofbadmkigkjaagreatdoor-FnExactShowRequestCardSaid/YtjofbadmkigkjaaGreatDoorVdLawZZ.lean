/- For all arguments, with the three listed tables as the program's text lays them, the program's ShowRequest returns what the reference's returns, and leaves its arguments as they were. No condition. -/
import Derived.Test.YtjofbadmkigkjaaGreatDoorVdLawAO
import Derived.Test.YtjofbadmkigkjaaGreatDoorRows
import Derived.WalkKit
import Derived.ProofKit
import Derived.OpenShut
import Derived.ShutString
import Derived.ChangeOld
import Derived.Below
import Derived.SizedLaws
import Derived.Deep.DeepHandedRow
import Derived.Deep.DeepWitnessRowRef
import Derived.JoinedCond
import Derived.Lib.LaidIn
import Derived.SevenTiedAt
import Derived.Test.YtjofbadmkigkjaaGreatDoorTie
import Derived.Test.YtjofbadmkigkjaaGreatDoorCards
set_option linter.unusedSimpArgs false
set_option linter.unusedVariables false
namespace Go.Proofs.YtjofbadmkigkjaaGreatDoor.fnExactShowRequest
open Go.ChangeShapes Go.WideShapes Go.ChangeAt Go.RowKit
open Go.ChangeMaps (open_string shut_string)
open Go.Bi
open Go.Ai (R h0 ι0)
theorem own : ownKnob Tryz.prog.godebug = none := by kernel_rfl
theorem laidOut : laidOutB Tryz.prog = true := by kernel_rfl
def rowOf : DataW Unit → Array Value
 | .agg l => (l.map fun
  | .lit (.int k n) => Value.int k n
  | _ => Value.int .i64 0).toArray
 | _ => #[]
noncomputable def laidWorld (os : Os) : World :=
 let w0 := World.holding Tryz.prog os ⟨#[], #[], []⟩
 let put (h : Array Obj) (g : Nat) (cs : Array Value) : Array Obj := h.modify g fun
  | .cells _ t frozen => .cells cs t frozen
  | o => o
 { w0 with heap := put (put (put w0.heap 2 (rowOf Rows.laid_math_bits_deBruijn32tab)) 3 (rowOf Rows.laid_math_bits_deBruijn64tab)) 1 (rowOf Rows.laid_internal_strconv_uint64pow10) }
theorem laid_met (os : Os) (args : Array Value) : laidMet Tryz.prog Rows.fnExactShowRequestRow.laid ((laidWorld os).forCall (fun _ _ => 0) ⟨#[], args, []⟩).memory :=
 (LaidIn.of_run [2, 3, 1] 8 (by kernel_rfl) (by kernel_rfl) (by kernel_rfl) (by kernel_rfl)).met
theorem witness_row (os : Os) {H : Type} (enc : TypeId × Value → H) :
  (OpenSpec.ofChange Rows.fnExactShowRequestSpec).preRow enc Tryz.prog Tryz.f3 Rows.fnExactShowRequestRow.domain false Rows.fnExactShowRequestRow.laid ((laidWorld os).forCall (fun _ _ => 0) ⟨#[], #[.agg #[.int .i64 0, .int .i64 0, .int .i64 0, .slice none 0 0, .slice none 0 0, .slice none 0 0, .slice none 0 0, .int .i64 0, .slice none 0 0, .slice none 0 0, .int .i64 0, .int .i64 0, .slice none 0 0, .slice none 0 0, .slice none 0 0, .slice none 0 0, .slice none 0 0], .int .i64 0], []⟩).memory #[.agg #[.int .i64 0, .int .i64 0, .int .i64 0, .slice none 0 0, .slice none 0 0, .slice none 0 0, .slice none 0 0, .int .i64 0, .slice none 0 0, .slice none 0 0, .int .i64 0, .int .i64 0, .slice none 0 0, .slice none 0 0, .slice none 0 0, .slice none 0 0, .slice none 0 0], .int .i64 0] := by
 have hw : (DataW.whole enc Tryz.prog ((laidWorld os).forCall (fun _ _ => 0) ⟨#[], #[.agg #[.int .i64 0, .int .i64 0, .int .i64 0, .slice none 0 0, .slice none 0 0, .slice none 0 0, .slice none 0 0, .int .i64 0, .slice none 0 0, .slice none 0 0, .int .i64 0, .int .i64 0, .slice none 0 0, .slice none 0 0, .slice none 0 0, .slice none 0 0, .slice none 0 0], .int .i64 0], []⟩).memory Tryz.f3.params.toList (OpenSpec.ofChange Rows.fnExactShowRequestSpec).vars false (#[.agg #[.int .i64 0, .int .i64 0, .int .i64 0, .slice none 0 0, .slice none 0 0, .slice none 0 0, .slice none 0 0, .int .i64 0, .slice none 0 0, .slice none 0 0, .int .i64 0, .int .i64 0, .slice none 0 0, .slice none 0 0, .slice none 0 0, .slice none 0 0, .slice none 0 0], .int .i64 0] : Array Value).toList 8).isSome = true := by kernel_rfl
 obtain ⟨x, hx⟩ := Option.isSome_iff_exists.1 hw
 exact OpenSpec.preRow_of_cond 8 hx rfl (fun k hk => by cases hk) (by kernel_rfl) (laid_met os _)
set_option maxRecDepth 100000 in
set_option maxHeartbeats 1000000 in
theorem lifted (os : Os) (started : os.Started) (H : Type) (enc : TypeId × Value → H) :
  ∀ F : Stop.Interp, ReturnsInHanded {} Tryz.checked os 3 .any ((OpenSpec.ofChange Rows.fnExactShowRequestSpec).preRow enc Tryz.prog Tryz.f3 Rows.fnExactShowRequestRow.domain false Rows.fnExactShowRequestRow.laid) (((OpenSpec.ofChange Rows.fnExactShowRequestSpec).at F).post enc Tryz.prog Tryz.f3 false true false false) := by
 intro F
 refine returnsInHanded_of_row (C := Tryz.checked) (s := OpenSpec.ofChange Rows.fnExactShowRequestSpec) own started (by kernel_rfl) Tryz.func3
  (witness_row_atRef (enc := enc) (C := Tryz.checked) false (laidWorld os) #[.agg #[.int .i64 0, .int .i64 0, .int .i64 0, .slice none 0 0, .slice none 0 0, .slice none 0 0, .slice none 0 0, .int .i64 0, .slice none 0 0, .slice none 0 0, .int .i64 0, .int .i64 0, .slice none 0 0, .slice none 0 0, .slice none 0 0, .slice none 0 0, .slice none 0 0], .int .i64 0] rfl (by kernel_rfl) (by kernel_rfl) (by kernel_rfl) (witness_row os enc)) ?_
 intro W base args ds gs before hval0 hW hcnd hcond hsz0 hL hsh _
 have hval : ∀ (j : Nat) t v, Tryz.f3.params[j]? = some t → args[j]? = some v → Value.okWide Tryz.prog W .any base t v := hval0
 have hW' := hW
 obtain ⟨p, q, hA0, hV, rfl, hfz, hnd⟩ := hW
 have hA : DataW.TrodAll enc Tryz.prog W 0 (fun _ => true) true Tryz.f3.params.toList args.toList ds p := hA0
 rw [Tryz.params3] at hA hval
 obtain ⟨v0, vs0, d0, ds0, p0, q0, hargs, rfl, rfl, h0', r0⟩ := trodAll_cons hA
 obtain ⟨v1, vs1, d1, ds1, p1, q1, rfl, rfl, rfl, h1', r1⟩ := trodAll_cons r0
 obtain ⟨rfl, rfl, rfl⟩ := trodAll_nil r1
 obtain rfl : args = #[v0, v1] := by cases args; simp_all
 obtain ⟨rfl, rfl⟩ := trodVars_none hV
 have hw0 := hval 0 37 v0 rfl rfl
 have k0 := h0'
 have lt0 : ∀ x ∈ p0, x.block < W.heap.size := by obtain ⟨m, hm⟩ := k0; exact DataW.trod_lt m _ _ _ hm
 have hw1 := hval 1 3 v1 rfl rfl
 have k1 := h1'
 have lt1 : ∀ x ∈ p1, x.block < W.heap.size := by obtain ⟨m, hm⟩ := k1; exact DataW.trod_lt m _ _ _ hm
 obtain ⟨ts0, F0, ty0, ok0, rs0⟩ := arg_struct (n := 12) Tryz.underlying37 (by kernel_rfl) hw0 h0'
 obtain ⟨c0, rfl, hf0, hrg0⟩ := tyEngineR ty0
 obtain ⟨n1, rfl, _, _, w1⟩ := open_int Tryz.underlying3 hw1 h1'
 have ok1 : Ok (h0 W) (g0 W) (.raw (.int .i64 n1)) := .raw
 have rs1 : R (ι0 W) (er (.raw (.int .i64 n1))) (.int .i64 n1) := rfl
 clear hA0 hval0 hsz0
 have hall : ∀ x ∈ [.st (xEngine F0 c0), .raw (.int .i64 n1)], Ok (h0 W) (g0 W) x := by
  intro x hx
  simp only [List.mem_cons, List.not_mem_nil, or_false] at hx
  rcases hx with rfl | rfl
  ·exact ok0
  ·exact ok1
 refine (law_call2 (vs := #[v0, .int .i64 n1]) (fun g => FnExactShowRequest_ok (lng_of hsh) hf0 hrg0) hall (.cons rs0 (.cons rs1 (.nil)))).mono fun e W' ⟨he, bel⟩ => ?_
 subst he
 exact ⟨_, rfl, _, _, _, [], _, [], hW', trodAll_mk1 (shut_bool Tryz.underlying4 _), (trodAll_cons_mk (Below.trod laidOut (by kernel_rfl) (of_decide_eq_true (by kernel_rfl)) k0 bel lt0) (trodAll_cons_mk (Below.trod laidOut (by kernel_rfl) (of_decide_eq_true (by kernel_rfl)) k1 bel lt1) trodAll_mk0)), rfl, bel.frame _, fun h => by cases h⟩
theorem n0 : Program.funcNamed Tryz.prog Rows.fnExactShowRequestRow.func = some 3 := by kernel_rfl
theorem n1 : Program.inPlace Tryz.prog 3 = Rows.fnExactShowRequestRow.inPlace := by kernel_rfl
theorem n2 : Program.unfollowed Tryz.prog 3 = Rows.fnExactShowRequestRow.unfollowed := by kernel_rfl
theorem n3 : Program.recurses Tryz.prog 3 = Rows.fnExactShowRequestRow.recurses := by kernel_rfl
theorem n4 : Program.varsNamed Tryz.prog 3 = Rows.fnExactShowRequestRow.named := by kernel_rfl
set_option maxRecDepth 100000 in
theorem closed : joinedFacts Tryz.prog 3 Tryz.f3 Rows.fnExactShowRequestSpec Rows.fnExactShowRequestRow = true := by
 unfold joinedFacts
 rw [n1, n2, n3, n4]
 kernel_rfl
set_option maxRecDepth 100000 in
theorem over : Rows.fnExactShowRequestRow.holds Tryz.pinned (OpenSpec.ofChange Rows.fnExactShowRequestSpec) :=
 OpenClaim.holds_of_cond 3 Tryz.f3 rfl rfl rfl rfl rfl rfl rfl ⟨rfl, rfl, rfl, rfl, rfl⟩ rfl rfl rfl rfl rfl n0 Tryz.func3 closed
  (of_decide_eq_true (by kernel_rfl)) (by unfold Func.isWrapper; first | (rw [if_pos (by decide +kernel)]; kernel_rfl) | (rw [if_neg (by decide +kernel)]; exact ⟨rfl, rfl⟩))
  (fun os started H enc _ F => by rw [OpenClaim.pre_eq_preRow]; exact lifted os started H enc F)
end Go.Proofs.YtjofbadmkigkjaaGreatDoor.fnExactShowRequest
namespace Go.Proofs.YtjofbadmkigkjaaGreatDoor
theorem fnExactShowRequestCard_holds : Rows.FnExactShowRequestCardSaid :=
 Claim7.holds_tied_plain_at .later [] [.data, .data, .data] true (true, "6ae5a367f01d4348c3b96a65694f6c7a626d1ba65900f04ce1ec72082a37c0e2") false
  fnExactShowRequest.over (fun _ h => by cases h) (by kernel_rfl) (fun _ h => by cases h) fnExactShowRequest_row_tie rfl ⟨rfl, rfl⟩ (by kernel_rfl) rfl
  (fun f fn hf hfn => by
   obtain rfl : f = 3 := Option.some.inj ((show Tryz.prog.funcNamed Rows.fnExactShowRequestRow.func = some 3 by kernel_rfl).symm.trans hf) |>.symm
   obtain rfl : fn = Tryz.f3 := (Option.some.inj (Tryz.func3.symm.trans hfn)).symm
   refine ⟨by kernel_rfl, fun j t ht => ?_⟩
   rw [Tryz.params3] at ht
   match j, ht with
   | 0, ht => obtain rfl := Option.some.inj ht; exact (show Tryz.prog.wantsStandIn 37 = false by kernel_rfl)
   | 1, ht => obtain rfl := Option.some.inj ht; exact (show Tryz.prog.wantsStandIn 3 = false by kernel_rfl)
   | j + 2, ht => exact absurd ht (by simp))
  (by kernel_rfl)
end Go.Proofs.YtjofbadmkigkjaaGreatDoor
#print axioms Go.Proofs.YtjofbadmkigkjaaGreatDoor.fnExactShowRequestCard_holds
