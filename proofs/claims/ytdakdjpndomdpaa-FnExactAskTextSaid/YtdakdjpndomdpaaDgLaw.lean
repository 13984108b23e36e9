/- Proved: the program's AskText returns what the reference's returns, for every ask, and leaves it as it was. No condition. -/
import Derived.Test.YtdakdjpndomdpaaRows
import Derived.Test.YtdakdjpndomdpaaDg
import Derived.Test.YtdakdjpndomdpaaBh
import Derived.WalkKit
import Derived.ProofKit
import Derived.OpenShut
import Derived.ShutString
import Derived.ChangeOld
import Derived.Below
import Derived.SizedLaws
import Derived.SliceStrings
namespace Go.Proofs.Ytdakdjpndomdpaa.fnExactAskText
open Go.ChangeShapes Go.WideShapes Go.ChangeAt Go.RowKit
open Go.ChangeMaps (open_string shut_string)
open Go.Bi
open Go.Ai (h0 ι0 fine fine_RS okWide_row RS R RG All2)
set_option linter.unusedVariables false
set_option linter.unusedSimpArgs false
theorem own : ownKnob Try.prog.godebug = none := by kernel_rfl
theorem laidOut : laidOutB Try.prog = true := by kernel_rfl
theorem list4 {α : Type} {l : List α} (h : l.length = 4) : ∃ a0 a1 a2 a3, l = [a0, a1, a2, a3] := by
  match l, h with
  | [a0, a1, a2, a3], _ => exact ⟨a0, a1, a2, a3, rfl⟩
theorem list5 {α : Type} {l : List α} (h : l.length = 5) : ∃ a0 a1 a2 a3 a4, l = [a0, a1, a2, a3, a4] := by
  match l, h with
  | [a0, a1, a2, a3, a4], _ => exact ⟨a0, a1, a2, a3, a4, rfl⟩
theorem list8 {α : Type} {l : List α} (h : l.length = 8) : ∃ a0 a1 a2 a3 a4 a5 a6 a7, l = [a0, a1, a2, a3, a4, a5, a6, a7] := by
  match l, h with
  | [a0, a1, a2, a3, a4, a5, a6, a7], _ => exact ⟨a0, a1, a2, a3, a4, a5, a6, a7, rfl⟩
set_option maxRecDepth 20000 in
theorem argAsk {W : World} {H : Type} {enc : TypeId × Value → H} {base : Nat} {v : Value} {d : DataW H} {ps : List MemPlace} (htr : DataW.Trod enc Try.prog W 0 (fun _ => true) true 61 v d ps) (hok : Value.okWide Try.prog W .any base 61 v) :
    ∃ (F : Nat → Adr) (c : LAsk), v = .agg ((xAsk F c).map Bi.er).toArray ∧ fitAsk c ∧ (∀ x ∈ xAsk F c, Ok (h0 W) (g0 W) x) ∧ All2 (RS (ι0 W)) ((xAsk F c).map Bi.er) ((xAsk F c).map Bi.er) := by
  obtain ⟨cs, rfl, hsz, hrow⟩ : ∃ cs, v = .agg cs ∧ cs.size = Try.prog.cellsOf 61 ∧ Row.okWide Try.prog W .any base 61 cs := by
    simpa only [Value.okWide, Try.underlying61] using hok
  obtain ⟨fuel, hf⟩ := htr
  have hn : Try.prog.cellsOf 61 = 8 := by kernel_rfl
  rw [hn] at hsz
  obtain ⟨c0, c1, c2, c3, c4, c5, c6, c7, hcs0⟩ := list8 (l := cs.toList) (by simpa using hsz)
  obtain rfl : cs = [c0, c1, c2, c3, c4, c5, c6, c7].toArray := by rw [← hcs0]
  clear hcs0 hsz
  obtain ⟨ts, ht, _, hcell⟩ := hrow
  have ht2 : Try.prog.cellTypes Try.prog.depth 61 = some [3, 9, 3, 3, 3, 3, 31, 40] := by kernel_rfl
  rw [ht2] at ht
  cases ht
  have e_Ask : Try.prog.cellsOf 61 = 8 := by kernel_rfl
  have e_int : Try.prog.cellsOf 3 = 1 := by kernel_rfl
  have e_string : Try.prog.cellsOf 9 = 1 := by kernel_rfl
  have e_Config : Try.prog.cellsOf 33 = 4 := by kernel_rfl
  have e_IntS : Try.prog.cellsOf 40 = 1 := by kernel_rfl
  have e_StringS : Try.prog.cellsOf 31 = 1 := by kernel_rfl
  obtain ⟨xs, m, _, hx, hl, hlen, hfs⟩ := DataW.trod_struct Try.underlying61 hf
  have hlen' : xs.length = 5 := by rw [hlen]; rfl
  obtain ⟨y_0, y_1, y_2, y_3, y_4, rfl⟩ := list5 hlen'
  have f_0 := hfs 0 _ rfl
  simp [Value.cells, e_int] at f_0
  have f_1 := hfs 1 _ rfl
  simp [Value.cells, e_string] at f_1
  have f_2 := hfs 2 _ rfl
  simp [Value.cells, e_int] at f_2
  have f_3 := hfs 3 _ rfl
  simp [Value.cells, e_Config] at f_3
  have f_4 := hfs 4 _ rfl
  simp [Value.cells, e_IntS] at f_4
  clear hfs hlen hlen' hx
  obtain ⟨n0, rfl, w0⟩ := arg_int Try.underlying3 f_0
  obtain ⟨n1, rfl, w1⟩ := arg_str Try.underlying9 f_1
  obtain ⟨n2, rfl, w2⟩ := arg_int Try.underlying3 f_2
  obtain ⟨xs3, m3, _, hx3, hl3, hlen3, hfs3⟩ := DataW.trod_struct Try.underlying33 f_3
  have hlen3' : xs3.length = 4 := by rw [hlen3]; rfl
  obtain ⟨y3_0, y3_1, y3_2, y3_3, rfl⟩ := list4 hlen3'
  have f3_0 := hfs3 0 _ rfl
  simp [Value.cells, e_int] at f3_0
  have f3_1 := hfs3 1 _ rfl
  simp [Value.cells, e_int] at f3_1
  have f3_2 := hfs3 2 _ rfl
  simp [Value.cells, e_int] at f3_2
  have f3_3 := hfs3 3 _ rfl
  simp [Value.cells, e_StringS] at f3_3
  clear hfs3 hlen3 hlen3' hx3
  obtain ⟨n3, rfl, w3⟩ := arg_int Try.underlying3 f3_0
  obtain ⟨n4, rfl, w4⟩ := arg_int Try.underlying3 f3_1
  obtain ⟨n5, rfl, w5⟩ := arg_int Try.underlying3 f3_2
  have hok6 : Cell.okWide Try.prog W .any base 31 c6 := by
    obtain ⟨u, hu, hok⟩ := hcell 6 c6 (by simp)
    have hu : u = 31 := by simpa using hu.symm
    subst hu; exact hok
  have hfi6 : fine W.heap.size c6 = true := okWide_row (t := 31) Try.underlying31 (by simpa only [Value.okWide, Try.underlying31] using hok6)
  obtain ⟨F6, n6, rfl, w6, o6⟩ := arg_strs Try.underlying31 Try.underlying9 (by kernel_rfl) hok6 f3_3
  have hok7 : Cell.okWide Try.prog W .any base 40 c7 := by
    obtain ⟨u, hu, hok⟩ := hcell 7 c7 (by simp)
    have hu : u = 40 := by simpa using hu.symm
    subst hu; exact hok
  have hfi7 : fine W.heap.size c7 = true := okWide_row (t := 40) Try.underlying40 (by simpa only [Value.okWide, Try.underlying40] using hok7)
  obtain ⟨F7, n7, rfl, w7, o7⟩ := arg_ints Try.underlying40 Try.underlying3 (by kernel_rfl) hok7 f_4
  refine ⟨fun j => (if j = 6 then F6 else F7), ⟨n0, n1, n2, ⟨n3, n4, n5, n6⟩, n7⟩, rfl, ⟨w1, w6, w7⟩, ?_, ?_⟩
  · intro x hx
    simp only [xAsk, List.mem_cons, List.not_mem_nil, or_false] at hx
    rcases hx with rfl | rfl | rfl | rfl | rfl | rfl | rfl | rfl
    · exact .raw
    · exact .raw
    · exact .raw
    · exact .raw
    · exact .raw
    · exact .raw
    · exact o6
    · exact o7
  · exact .cons rfl (.cons rfl (.cons rfl (.cons rfl (.cons rfl (.cons rfl (.cons (fine_RS hfi6) (.cons (fine_RS hfi7) (.nil))))))))
set_option maxRecDepth 100000 in
set_option maxHeartbeats 400000 in
theorem lifted (os : Os) (started : os.Started) (H : Type) (enc : TypeId × Value → H) :
    ReturnsInHanded {} Try.checked os 10 .any (Rows.fnExactAskTextSpec.pre6 enc Try.prog Try.f10 Rows.fnExactAskTextRow.domain false) (Rows.fnExactAskTextSpec.post enc Try.prog Try.f10 false true false false) := by
  refine returnsInHanded_of_change_sized (C := Try.checked) own started (by kernel_rfl) Try.func10
    (ChangeSpec.witness6 (enc := enc) (C := Try.checked) false ⟨#[], #[.agg #[.int .i64 0, .string ⟨#[]⟩, .int .i64 0, .int .i64 0, .int .i64 0, .int .i64 0, .slice none 0 0, .slice none 0 0]], []⟩ 8 (by kernel_rfl) (by kernel_rfl) (by kernel_rfl) (by kernel_rfl)) ?_
  intro W base args ds gs before hval0 hW hcnd hsz0 _
  have hsz : (DataW.weightsEach Try.prog (Try.f10.params.toList ++ Rows.fnExactAskTextSpec.plain.varTypes Try.prog) (ds ++ gs)).all (· ≤ reachBytes) = true := hsz0
  have hval : ∀ (j : Nat) t v, Try.f10.params[j]? = some t → args[j]? = some v → Value.okWide Try.prog W .any base t v := hval0
  have hW' := hW
  obtain ⟨p, q, hA0, hV, rfl, hfz, hnd⟩ := hW
  have hA : DataW.TrodAll enc Try.prog W 0 (fun _ => true) true Try.f10.params.toList args.toList ds p := hA0
  rw [Try.params10] at hA hval hsz
  obtain ⟨v0, vs0, d0, ds0, p0, q0, hargs, rfl, rfl, h0', r0⟩ := trodAll_cons hA
  obtain ⟨rfl, rfl, rfl⟩ := trodAll_nil r0
  obtain rfl : args = #[v0] := by cases args; simp_all
  obtain ⟨rfl, rfl⟩ := trodVars_none hV
  have hw0 := hval 0 61 v0 rfl rfl
  have k0 := h0'
  have lt0 : ∀ x ∈ p0, x.block < W.heap.size := by obtain ⟨m, hm⟩ := k0; exact DataW.trod_lt m _ _ _ hm
  obtain ⟨F0, c0, rfl, hf0, ok0, rs0⟩ := argAsk h0' hw0
  clear hA0 hval0 hsz0 hsz
  have hall : ∀ x ∈ [.st (xAsk F0 c0)], Ok (h0 W) (g0 W) x := by
    intro x hx
    simp only [List.mem_cons, List.not_mem_nil, or_false] at hx
    rcases hx with rfl
    · exact .st ok0
  have hrs : ∀ v ∈ [.st (xAsk F0 c0)].map Bi.er, R (ι0 W) v v := by
    intro v hv
    simp only [List.map_cons, List.map_nil, List.mem_cons, List.not_mem_nil, or_false] at hv
    rcases hv with rfl
    · exact (by simp only [Bi.er, ers_eq]; exact R_agg rs0)
  have hlaw := law_call (fun g => FnExactAskText_ok hf0) hall hrs
  have hlist : ([.st (xAsk F0 c0)].map Bi.er).toArray = #[.agg ((xAsk F0 c0).map Bi.er).toArray] := by
    simp only [List.map_cons, List.map_nil, Bi.er, ers_eq]
  rw [hlist] at hlaw
  refine hlaw.mono fun e W' ⟨he, bel⟩ => ?_
  subst he
  exact ⟨_, rfl, _, _, _, [], _, [], hW', trodAll_mk1 (shut_bool Try.underlying4 _), (trodAll_cons_mk (Below.trod laidOut (by kernel_rfl) (of_decide_eq_true (by kernel_rfl)) k0 bel lt0) trodAll_mk0), rfl, bel.frame _, fun h => by cases h⟩
theorem over : Rows.fnExactAskTextRow.holds Try.pinned (OpenSpec.ofChange Rows.fnExactAskTextSpec) :=
  OpenClaim.holds_of_wide 10 Try.f10 rfl rfl rfl rfl rfl rfl rfl ⟨rfl, rfl, rfl, rfl, rfl⟩ rfl rfl rfl rfl rfl (by kernel_rfl) Try.func10 (by kernel_rfl)
    (of_decide_eq_true (by kernel_rfl)) (by unfold Func.isWrapper; first | (rw [if_pos (by decide +kernel)]; kernel_rfl) | (rw [if_neg (by decide +kernel)]; exact ⟨rfl, rfl⟩))
    (fun os started H enc _ => lifted os started H enc)
end Go.Proofs.Ytdakdjpndomdpaa.fnExactAskText
namespace Go.Proofs.Ytdakdjpndomdpaa
theorem fnExactAskText_holds : Rows.FnExactAskTextSaid := fnExactAskText.over
end Go.Proofs.Ytdakdjpndomdpaa
#print axioms Go.Proofs.Ytdakdjpndomdpaa.fnExactAskText_holds
