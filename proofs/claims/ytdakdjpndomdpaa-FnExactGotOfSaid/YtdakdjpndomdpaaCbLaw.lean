/- Proved: the program's GotOf returns what the reference's returns, for every request, leaves it as it was, and shares no memory. No condition. -/
import Derived.Test.YtdakdjpndomdpaaRows
import Derived.Test.YtdakdjpndomdpaaCb
import Derived.Test.YtdakdjpndomdpaaBh
import Derived.WalkKit
import Derived.ProofKit
import Derived.OpenShut
import Derived.ShutString
import Derived.ChangeOld
import Derived.Below
import Derived.SizedLaws
import Derived.SliceStrings
namespace Go.Proofs.Ytdakdjpndomdpaa.fnExactGotOf
open Go.ChangeShapes Go.WideShapes Go.ChangeAt Go.RowKit
open Go.ChangeMaps (open_string shut_string)
open Go.Bi
open Go.Ai (h0 ι0 fine fine_RS okWide_row RS R RG All2)
set_option linter.unusedVariables false
theorem own : ownKnob Try.prog.godebug = none := by kernel_rfl
theorem laidOut : laidOutB Try.prog = true := by kernel_rfl
theorem list2 {α : Type} {l : List α} (h : l.length = 2) : ∃ a0 a1, l = [a0, a1] := by
  match l, h with
  | [a0, a1], _ => exact ⟨a0, a1, rfl⟩
theorem list4 {α : Type} {l : List α} (h : l.length = 4) : ∃ a0 a1 a2 a3, l = [a0, a1, a2, a3] := by
  match l, h with
  | [a0, a1, a2, a3], _ => exact ⟨a0, a1, a2, a3, rfl⟩
theorem list6 {α : Type} {l : List α} (h : l.length = 6) : ∃ a0 a1 a2 a3 a4 a5, l = [a0, a1, a2, a3, a4, a5] := by
  match l, h with
  | [a0, a1, a2, a3, a4, a5], _ => exact ⟨a0, a1, a2, a3, a4, a5, rfl⟩
theorem list10 {α : Type} {l : List α} (h : l.length = 10) : ∃ a0 a1 a2 a3 a4 a5 a6 a7 a8 a9, l = [a0, a1, a2, a3, a4, a5, a6, a7, a8, a9] := by
  match l, h with
  | [a0, a1, a2, a3, a4, a5, a6, a7, a8, a9], _ => exact ⟨a0, a1, a2, a3, a4, a5, a6, a7, a8, a9, rfl⟩
set_option maxRecDepth 20000 in
theorem argRequest {W : World} {H : Type} {enc : TypeId × Value → H} {base : Nat} {v : Value} {d : DataW H} {ps : List MemPlace} (htr : DataW.Trod enc Try.prog W 0 (fun _ => true) true 50 v d ps) (hok : Value.okWide Try.prog W .any base 50 v) :
    ∃ (F : Nat → Adr) (c : LRequest), v = .agg ((xRequest F c).map Bi.er).toArray ∧ fitRequest c ∧ (∀ x ∈ xRequest F c, Ok (h0 W) (g0 W) x) ∧ All2 (RS (ι0 W)) ((xRequest F c).map Bi.er) ((xRequest F c).map Bi.er) := by
  obtain ⟨cs, rfl, hsz, hrow⟩ : ∃ cs, v = .agg cs ∧ cs.size = Try.prog.cellsOf 50 ∧ Row.okWide Try.prog W .any base 50 cs := by
    simpa only [Value.okWide, Try.underlying50] using hok
  obtain ⟨fuel, hf⟩ := htr
  have hn : Try.prog.cellsOf 50 = 10 := by kernel_rfl
  rw [hn] at hsz
  obtain ⟨c0, c1, c2, c3, c4, c5, c6, c7, c8, c9, hcs0⟩ := list10 (l := cs.toList) (by simpa using hsz)
  obtain rfl : cs = [c0, c1, c2, c3, c4, c5, c6, c7, c8, c9].toArray := by rw [← hcs0]
  clear hcs0 hsz
  obtain ⟨ts, ht, _, hcell⟩ := hrow
  have ht2 : Try.prog.cellTypes Try.prog.depth 50 = some [3, 40, 3, 3, 3, 31, 22, 40, 3, 3] := by kernel_rfl
  rw [ht2] at ht
  cases ht
  have e_Request : Try.prog.cellsOf 50 = 10 := by kernel_rfl
  have e_int : Try.prog.cellsOf 3 = 1 := by kernel_rfl
  have e_IntS : Try.prog.cellsOf 40 = 1 := by kernel_rfl
  have e_Config : Try.prog.cellsOf 33 = 4 := by kernel_rfl
  have e_u64 : Try.prog.cellsOf 22 = 1 := by kernel_rfl
  have e_Table : Try.prog.cellsOf 48 = 2 := by kernel_rfl
  have e_StringS : Try.prog.cellsOf 31 = 1 := by kernel_rfl
  obtain ⟨xs, m, _, hx, hl, hlen, hfs⟩ := DataW.trod_struct Try.underlying50 hf
  have hlen' : xs.length = 6 := by rw [hlen]; rfl
  obtain ⟨y_0, y_1, y_2, y_3, y_4, y_5, rfl⟩ := list6 hlen'
  have f_0 := hfs 0 _ rfl
  simp [Value.cells, e_int] at f_0
  have f_1 := hfs 1 _ rfl
  simp [Value.cells, e_IntS] at f_1
  have f_2 := hfs 2 _ rfl
  simp [Value.cells, e_Config] at f_2
  have f_3 := hfs 3 _ rfl
  simp [Value.cells, e_u64] at f_3
  have f_4 := hfs 4 _ rfl
  simp [Value.cells, e_Table] at f_4
  have f_5 := hfs 5 _ rfl
  simp [Value.cells, e_int] at f_5
  clear hfs hlen hlen' hx
  obtain ⟨n0, rfl, w0⟩ := arg_int Try.underlying3 f_0
  have hok1 : Cell.okWide Try.prog W .any base 40 c1 := by
    obtain ⟨u, hu, hok⟩ := hcell 1 c1 (by simp)
    have hu : u = 40 := by simpa using hu.symm
    subst hu; exact hok
  have hfi1 : fine W.heap.size c1 = true := okWide_row (t := 40) Try.underlying40 (by simpa only [Value.okWide, Try.underlying40] using hok1)
  obtain ⟨F1, n1, rfl, w1, o1⟩ := arg_ints Try.underlying40 Try.underlying3 (by kernel_rfl) hok1 f_1
  obtain ⟨xs2, m2, _, hx2, hl2, hlen2, hfs2⟩ := DataW.trod_struct Try.underlying33 f_2
  have hlen2' : xs2.length = 4 := by rw [hlen2]; rfl
  obtain ⟨y2_0, y2_1, y2_2, y2_3, rfl⟩ := list4 hlen2'
  have f2_0 := hfs2 0 _ rfl
  simp [Value.cells, e_int] at f2_0
  have f2_1 := hfs2 1 _ rfl
  simp [Value.cells, e_int] at f2_1
  have f2_2 := hfs2 2 _ rfl
  simp [Value.cells, e_int] at f2_2
  have f2_3 := hfs2 3 _ rfl
  simp [Value.cells, e_StringS] at f2_3
  clear hfs2 hlen2 hlen2' hx2
  obtain ⟨n2, rfl, w2⟩ := arg_int Try.underlying3 f2_0
  obtain ⟨n3, rfl, w3⟩ := arg_int Try.underlying3 f2_1
  obtain ⟨n4, rfl, w4⟩ := arg_int Try.underlying3 f2_2
  have hok5 : Cell.okWide Try.prog W .any base 31 c5 := by
    obtain ⟨u, hu, hok⟩ := hcell 5 c5 (by simp)
    have hu : u = 31 := by simpa using hu.symm
    subst hu; exact hok
  have hfi5 : fine W.heap.size c5 = true := okWide_row (t := 31) Try.underlying31 (by simpa only [Value.okWide, Try.underlying31] using hok5)
  obtain ⟨F5, n5, rfl, w5, o5⟩ := arg_strs Try.underlying31 Try.underlying9 (by kernel_rfl) hok5 f2_3
  obtain ⟨n6, rfl, w6⟩ := arg_int Try.underlying22 f_3
  obtain ⟨xs4, m4, _, hx4, hl4, hlen4, hfs4⟩ := DataW.trod_struct Try.underlying48 f_4
  have hlen4' : xs4.length = 2 := by rw [hlen4]; rfl
  obtain ⟨y4_0, y4_1, rfl⟩ := list2 hlen4'
  have f4_0 := hfs4 0 _ rfl
  simp [Value.cells, e_IntS] at f4_0
  have f4_1 := hfs4 1 _ rfl
  simp [Value.cells, e_int] at f4_1
  clear hfs4 hlen4 hlen4' hx4
  have hok7 : Cell.okWide Try.prog W .any base 40 c7 := by
    obtain ⟨u, hu, hok⟩ := hcell 7 c7 (by simp)
    have hu : u = 40 := by simpa using hu.symm
    subst hu; exact hok
  have hfi7 : fine W.heap.size c7 = true := okWide_row (t := 40) Try.underlying40 (by simpa only [Value.okWide, Try.underlying40] using hok7)
  obtain ⟨F7, n7, rfl, w7, o7⟩ := arg_ints Try.underlying40 Try.underlying3 (by kernel_rfl) hok7 f4_0
  obtain ⟨n8, rfl, w8⟩ := arg_int Try.underlying3 f4_1
  obtain ⟨n9, rfl, w9⟩ := arg_int Try.underlying3 f_5
  refine ⟨fun j => (if j = 1 then F1 else (if j = 5 then F5 else F7)), ⟨n0, n1, ⟨n2, n3, n4, n5⟩, n6, ⟨n7, n8⟩, n9⟩, rfl, ⟨w1, w5, w7⟩, ?_, ?_⟩
  · intro x hx
    simp only [xRequest, List.mem_cons, List.not_mem_nil, or_false] at hx
    rcases hx with rfl | rfl | rfl | rfl | rfl | rfl | rfl | rfl | rfl | rfl
    · exact .raw
    · exact o1
    · exact .raw
    · exact .raw
    · exact .raw
    · exact o5
    · exact .raw
    · exact o7
    · exact .raw
    · exact .raw
  · exact .cons rfl (.cons (fine_RS hfi1) (.cons rfl (.cons rfl (.cons rfl (.cons (fine_RS hfi5) (.cons rfl (.cons (fine_RS hfi7) (.cons rfl (.cons rfl (.nil))))))))))
set_option maxRecDepth 100000 in
set_option maxHeartbeats 400000 in
theorem lifted (os : Os) (started : os.Started) (H : Type) (enc : TypeId × Value → H) :
    ReturnsInHanded {} Try.checked os 9 .any (Rows.fnExactGotOfSpec.pre6 enc Try.prog Try.f9 Rows.fnExactGotOfRow.domain false) (Rows.fnExactGotOfSpec.post enc Try.prog Try.f9 false true false false) := by
  refine returnsInHanded_of_change_sized (C := Try.checked) own started (by kernel_rfl) Try.func9
    (ChangeSpec.witness6 (enc := enc) (C := Try.checked) false ⟨#[], #[.agg #[.int .i64 0, .slice none 0 0, .int .i64 0, .int .i64 0, .int .i64 0, .slice none 0 0, .int .u64 0, .slice none 0 0, .int .i64 0, .int .i64 0]], []⟩ 8 (by kernel_rfl) (by kernel_rfl) (by kernel_rfl) (by kernel_rfl)) ?_
  intro W base args ds gs before hval0 hW hcnd hsz0 _
  have hsz : (DataW.weightsEach Try.prog (Try.f9.params.toList ++ Rows.fnExactGotOfSpec.plain.varTypes Try.prog) (ds ++ gs)).all (· ≤ reachBytes) = true := hsz0
  have hval : ∀ (j : Nat) t v, Try.f9.params[j]? = some t → args[j]? = some v → Value.okWide Try.prog W .any base t v := hval0
  have hW' := hW
  obtain ⟨p, q, hA0, hV, rfl, hfz, hnd⟩ := hW
  have hA : DataW.TrodAll enc Try.prog W 0 (fun _ => true) true Try.f9.params.toList args.toList ds p := hA0
  rw [Try.params9] at hA hval hsz
  obtain ⟨v0, vs0, d0, ds0, p0, q0, hargs, rfl, rfl, h0', r0⟩ := trodAll_cons hA
  obtain ⟨rfl, rfl, rfl⟩ := trodAll_nil r0
  obtain rfl : args = #[v0] := by cases args; simp_all
  obtain ⟨rfl, rfl⟩ := trodVars_none hV
  have hw0 := hval 0 50 v0 rfl rfl
  have k0 := h0'
  have lt0 : ∀ x ∈ p0, x.block < W.heap.size := by obtain ⟨m, hm⟩ := k0; exact DataW.trod_lt m _ _ _ hm
  obtain ⟨F0, c0, rfl, hf0, ok0, rs0⟩ := argRequest h0' hw0
  clear hA0 hval0 hsz0 hsz
  have hall : ∀ x ∈ [.st (xRequest F0 c0)], Ok (h0 W) (g0 W) x := by
    intro x hx
    simp only [List.mem_cons, List.not_mem_nil, or_false] at hx
    rcases hx with rfl
    · exact .st ok0
  have hrs : ∀ v ∈ [.st (xRequest F0 c0)].map Bi.er, R (ι0 W) v v := by
    intro v hv
    simp only [List.map_cons, List.map_nil, List.mem_cons, List.not_mem_nil, or_false] at hv
    rcases hv with rfl
    · exact (by simp only [Bi.er, ers_eq]; exact R_agg rs0)
  have hlaw := law_call (fun g => FnExactGotOf_ok hf0) hall hrs
  have hlist : ([.st (xRequest F0 c0)].map Bi.er).toArray = #[.agg ((xRequest F0 c0).map Bi.er).toArray] := by
    simp only [List.map_cons, List.map_nil, Bi.er, ers_eq]
  rw [hlist] at hlaw
  refine hlaw.mono fun e W' ⟨he, bel⟩ => ?_
  subst he
  exact ⟨_, rfl, _, _, _, [], _, [], hW', trodAll_mk1 (shut_bool Try.underlying4 _), (trodAll_cons_mk (Below.trod laidOut (by kernel_rfl) (of_decide_eq_true (by kernel_rfl)) k0 bel lt0) trodAll_mk0), rfl, bel.frame _, fun h => by cases h⟩
theorem over : Rows.fnExactGotOfRow.holds Try.pinned (OpenSpec.ofChange Rows.fnExactGotOfSpec) :=
  OpenClaim.holds_of_wide 9 Try.f9 rfl rfl rfl rfl rfl rfl rfl ⟨rfl, rfl, rfl, rfl, rfl⟩ rfl rfl rfl rfl rfl (by kernel_rfl) Try.func9 (by kernel_rfl)
    (of_decide_eq_true (by kernel_rfl)) (by unfold Func.isWrapper; first | (rw [if_pos (by decide +kernel)]; kernel_rfl) | (rw [if_neg (by decide +kernel)]; exact ⟨rfl, rfl⟩))
    (fun os started H enc _ => lifted os started H enc)
end Go.Proofs.Ytdakdjpndomdpaa.fnExactGotOf
namespace Go.Proofs.Ytdakdjpndomdpaa
theorem fnExactGotOf_holds : Rows.FnExactGotOfSaid := fnExactGotOf.over
end Go.Proofs.Ytdakdjpndomdpaa
#print axioms Go.Proofs.Ytdakdjpndomdpaa.fnExactGotOf_holds
