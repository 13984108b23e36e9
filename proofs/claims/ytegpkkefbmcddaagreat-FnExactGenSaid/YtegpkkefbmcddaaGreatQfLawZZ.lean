/- For all arguments, the program's Gen returns what the reference's returns, leaves its arguments as they were, and shares nothing with them. No condition. No condition. -/
import Derived.Test.YtegpkkefbmcddaaGreatQfLawAS
import Derived.Test.YtegpkkefbmcddaaGreatRows
import Derived.WalkKit
import Derived.ProofKit
import Derived.OpenShut
import Derived.ShutString
import Derived.ChangeOld
import Derived.Below
import Derived.SizedLaws
set_option linter.unusedSimpArgs false
set_option linter.unusedVariables false
namespace Go.Proofs.YtegpkkefbmcddaaGreat.fnExactGen
open Go.ChangeShapes Go.WideShapes Go.ChangeAt Go.RowKit
open Go.ChangeMaps (open_string shut_string)
open Go.Bi
open Go.Ai (R h0 ι0)
theorem own : ownKnob Tryz.prog.godebug = none := by kernel_rfl
theorem laidOut : laidOutB Tryz.prog = true := by kernel_rfl
set_option maxRecDepth 100000 in
set_option maxHeartbeats 1000000 in
theorem lifted (os : Os) (started : os.Started) (H : Type) (enc : TypeId × Value → H) :
  ReturnsInHanded {} Tryz.checked os 8 .any (Rows.fnExactGenSpec.pre6 enc Tryz.prog Tryz.f8 Rows.fnExactGenRow.domain false) (Rows.fnExactGenSpec.post enc Tryz.prog Tryz.f8 false true false false) := by
 refine returnsInHanded_of_change_sized (C := Tryz.checked) own started (by kernel_rfl) Tryz.func8
  (ChangeSpec.witness6 (enc := enc) (C := Tryz.checked) false ⟨#[], #[.agg #[.int .i64 0, .int .i64 0, .int .i64 0, .slice none 0 0, .slice none 0 0, .slice none 0 0, .slice none 0 0, .int .i64 0, .slice none 0 0, .slice none 0 0, .int .i64 0, .int .i64 0, .slice none 0 0, .slice none 0 0], .slice none 0 0, .agg #[.int .i64 0, .int .i64 0, .int .i64 0, .slice none 0 0]], []⟩ 8 (by kernel_rfl) (by kernel_rfl) (by kernel_rfl) (by kernel_rfl)) ?_
 intro W base args ds gs before hval0 hW hcnd hsz0 _
 have hval : ∀ (j : Nat) t v, Tryz.f8.params[j]? = some t → args[j]? = some v → Value.okWide Tryz.prog W .any base t v := hval0
 have hW' := hW
 obtain ⟨p, q, hA0, hV, rfl, hfz, hnd⟩ := hW
 have hA : DataW.TrodAll enc Tryz.prog W 0 (fun _ => true) true Tryz.f8.params.toList args.toList ds p := hA0
 rw [Tryz.params8] at hA hval
 obtain ⟨v0, vs0, d0, ds0, p0, q0, hargs, rfl, rfl, h0', r0⟩ := trodAll_cons hA
 obtain ⟨v1, vs1, d1, ds1, p1, q1, rfl, rfl, rfl, h1', r1⟩ := trodAll_cons r0
 obtain ⟨v2, vs2, d2, ds2, p2, q2, rfl, rfl, rfl, h2', r2⟩ := trodAll_cons r1
 obtain ⟨rfl, rfl, rfl⟩ := trodAll_nil r2
 obtain rfl : args = #[v0, v1, v2] := by cases args; simp_all
 obtain ⟨rfl, rfl⟩ := trodVars_none hV
 have hw0 := hval 0 31 v0 rfl rfl
 have k0 := h0'
 have lt0 : ∀ x ∈ p0, x.block < W.heap.size := by obtain ⟨m, hm⟩ := k0; exact DataW.trod_lt m _ _ _ hm
 have hw1 := hval 1 25 v1 rfl rfl
 have k1 := h1'
 have lt1 : ∀ x ∈ p1, x.block < W.heap.size := by obtain ⟨m, hm⟩ := k1; exact DataW.trod_lt m _ _ _ hm
 have hw2 := hval 2 67 v2 rfl rfl
 have k2 := h2'
 have lt2 : ∀ x ∈ p2, x.block < W.heap.size := by obtain ⟨m, hm⟩ := k2; exact DataW.trod_lt m _ _ _ hm
 obtain ⟨ts0, F0, ty0, ok0, rs0⟩ := ME (n := 12) Tryz.underlying31 (by kernel_rfl) hw0 h0'
 obtain ⟨c0, rfl, hf0⟩ := Z2 ty0
 obtain ⟨es1, f1, ty1, ok1, rs1⟩ := VN (n := 12) Tryz.underlying25 (by kernel_rfl) hw1 h1'
 obtain ⟨z1, he1, hf1⟩ := LI ty1
 simp only [List.cons.injEq, T.l.injEq, and_true] at he1
 obtain ⟨hz1, rfl⟩ := he1
 rw [hz1] at ok1 rs1
 obtain ⟨ts2, F2, ty2, ok2, rs2⟩ := ME (n := 12) Tryz.underlying67 (by kernel_rfl) hw2 h2'
 obtain ⟨c2, rfl, hf2⟩ := X2 ty2
 clear hA0 hval0 hsz0
 have hall : ∀ x ∈ [.st (BH F0 c0), .sl f1 1 (ints z1), .st (BR F2 c2)], Ok (h0 W) (g0 W) x := by
  intro x hx
  simp only [List.mem_cons, List.not_mem_nil, or_false] at hx
  rcases hx with rfl | rfl | rfl
  ·exact ok0
  ·exact ok1
  ·exact ok2
 refine (WN (vs := #[v0, v1, v2]) (fun g => Mv hf0 hf1 hf2) hall (.cons rs0 (.cons rs1 (.cons rs2 (.nil))))).mono fun e W' ⟨he, bel⟩ => ?_
 subst he
 exact ⟨_, rfl, _, _, _, [], _, [], hW', trodAll_mk1 (shut_bool Tryz.underlying4 _), (trodAll_cons_mk (Below.trod laidOut (by kernel_rfl) (of_decide_eq_true (by kernel_rfl)) k0 bel lt0) (trodAll_cons_mk (Below.trod laidOut (by kernel_rfl) (of_decide_eq_true (by kernel_rfl)) k1 bel lt1) (trodAll_cons_mk (Below.trod laidOut (by kernel_rfl) (of_decide_eq_true (by kernel_rfl)) k2 bel lt2) trodAll_mk0))), rfl, bel.frame _, fun h => by cases h⟩
theorem n0 : Program.funcNamed Tryz.prog Rows.fnExactGenRow.func = some 8 := by kernel_rfl
theorem n1 : Program.inPlace Tryz.prog 8 = Rows.fnExactGenRow.inPlace := by kernel_rfl
theorem n2 : Program.unfollowed Tryz.prog 8 = Rows.fnExactGenRow.unfollowed := by kernel_rfl
theorem n3 : Program.recurses Tryz.prog 8 = Rows.fnExactGenRow.recurses := by kernel_rfl
theorem n4 : Program.varsNamed Tryz.prog 8 = Rows.fnExactGenRow.named := by kernel_rfl
set_option maxRecDepth 100000 in
theorem closed : joinedFacts Tryz.prog 8 Tryz.f8 Rows.fnExactGenSpec Rows.fnExactGenRow = true := by
 unfold joinedFacts
 rw [n1, n2, n3, n4]
 kernel_rfl
theorem over : Rows.fnExactGenRow.holds Tryz.pinned (OpenSpec.ofChange Rows.fnExactGenSpec) :=
 OpenClaim.holds_of_wide 8 Tryz.f8 rfl rfl rfl rfl rfl rfl rfl ⟨rfl, rfl, rfl, rfl, rfl⟩ rfl rfl rfl rfl rfl n0 Tryz.func8 closed
  (of_decide_eq_true (by kernel_rfl)) (by unfold Func.isWrapper; first | (rw [if_pos (by decide +kernel)]; kernel_rfl) | (rw [if_neg (by decide +kernel)]; exact ⟨rfl, rfl⟩))
  (fun os started H enc _ => lifted os started H enc)
end Go.Proofs.YtegpkkefbmcddaaGreat.fnExactGen
namespace Go.Proofs.YtegpkkefbmcddaaGreat
theorem fnExactGen_holds : Rows.FnExactGenSaid := fnExactGen.over
end Go.Proofs.YtegpkkefbmcddaaGreat
#print axioms Go.Proofs.YtegpkkefbmcddaaGreat.fnExactGen_holds
