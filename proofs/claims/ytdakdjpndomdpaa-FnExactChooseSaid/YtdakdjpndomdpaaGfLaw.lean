/- Proved: the program's Choose returns what the reference's returns, for every config, state and list, and leaves these as they were. No condition. -/
import Derived.Test.YtdakdjpndomdpaaRows
import Derived.Test.YtdakdjpndomdpaaGf
import Derived.Test.YtdakdjpndomdpaaBh
import Derived.WalkKit
import Derived.ProofKit
import Derived.OpenShut
import Derived.ShutString
import Derived.ChangeOld
import Derived.Below
import Derived.SizedLaws
import Derived.SliceStrings
namespace Go.Proofs.Ytdakdjpndomdpaa.fnExactChoose
open Go.ChangeShapes Go.WideShapes Go.ChangeAt Go.RowKit
open Go.ChangeMaps (open_string shut_string)
open Go.Bi
open Go.Ai (h0 ι0 fine fine_RS okWide_row RS R RG All2)
set_option linter.unusedVariables false
set_option linter.unusedSimpArgs false
theorem own : ownKnob Try.prog.godebug = none := by kernel_rfl
theorem laidOut : laidOutB Try.prog = true := by kernel_rfl
theorem list4 {α : Type} {l : List α} (h : l.length = 4) : ∃ a0 a1 a2 a3, l = [a0, a1, a2, a3] := by
  match l, h with
  | [a0, a1, a2, a3], _ => exact ⟨a0, a1, a2, a3, rfl⟩
set_option maxRecDepth 20000 in
theorem argConfig {W : World} {H : Type} {enc : TypeId × Value → H} {base : Nat} {v : Value} {d : DataW H} {ps : List MemPlace} (htr : DataW.Trod enc Try.prog W 0 (fun _ => true) true 33 v d ps) (hok : Value.okWide Try.prog W .any base 33 v) :
    ∃ (F : Nat → Adr) (c : LConfig), v = .agg ((xConfig F c).map Bi.er).toArray ∧ fitConfig c ∧ (∀ x ∈ xConfig F c, Ok (h0 W) (g0 W) x) ∧ All2 (RS (ι0 W)) ((xConfig F c).map Bi.er) ((xConfig F c).map Bi.er) := by
  obtain ⟨cs, rfl, hsz, hrow⟩ : ∃ cs, v = .agg cs ∧ cs.size = Try.prog.cellsOf 33 ∧ Row.okWide Try.prog W .any base 33 cs := by
    simpa only [Value.okWide, Try.underlying33] using hok
  obtain ⟨fuel, hf⟩ := htr
  have hn : Try.prog.cellsOf 33 = 4 := by kernel_rfl
  rw [hn] at hsz
  obtain ⟨c0, c1, c2, c3, hcs0⟩ := list4 (l := cs.toList) (by simpa using hsz)
  obtain rfl : cs = [c0, c1, c2, c3].toArray := by rw [← hcs0]
  clear hcs0 hsz
  obtain ⟨ts, ht, _, hcell⟩ := hrow
  have ht2 : Try.prog.cellTypes Try.prog.depth 33 = some [3, 3, 3, 31] := by kernel_rfl
  rw [ht2] at ht
  cases ht
  have e_Config : Try.prog.cellsOf 33 = 4 := by kernel_rfl
  have e_int : Try.prog.cellsOf 3 = 1 := by kernel_rfl
  have e_StringS : Try.prog.cellsOf 31 = 1 := by kernel_rfl
  obtain ⟨xs, m, _, hx, hl, hlen, hfs⟩ := DataW.trod_struct Try.underlying33 hf
  have hlen' : xs.length = 4 := by rw [hlen]; rfl
  obtain ⟨y_0, y_1, y_2, y_3, rfl⟩ := list4 hlen'
  have f_0 := hfs 0 _ rfl
  simp [Value.cells, e_int] at f_0
  have f_1 := hfs 1 _ rfl
  simp [Value.cells, e_int] at f_1
  have f_2 := hfs 2 _ rfl
  simp [Value.cells, e_int] at f_2
  have f_3 := hfs 3 _ rfl
  simp [Value.cells, e_StringS] at f_3
  clear hfs hlen hlen' hx
  obtain ⟨n0, rfl, w0⟩ := arg_int Try.underlying3 f_0
  obtain ⟨n1, rfl, w1⟩ := arg_int Try.underlying3 f_1
  obtain ⟨n2, rfl, w2⟩ := arg_int Try.underlying3 f_2
  have hok3 : Cell.okWide Try.prog W .any base 31 c3 := by
    obtain ⟨u, hu, hok⟩ := hcell 3 c3 (by simp)
    have hu : u = 31 := by simpa using hu.symm
    subst hu; exact hok
  have hfi3 : fine W.heap.size c3 = true := okWide_row (t := 31) Try.underlying31 (by simpa only [Value.okWide, Try.underlying31] using hok3)
  obtain ⟨F3, n3, rfl, w3, o3⟩ := arg_strs Try.underlying31 Try.underlying9 (by kernel_rfl) hok3 f_3
  refine ⟨fun j => F3, ⟨n0, n1, n2, n3⟩, rfl, w3, ?_, ?_⟩
  · intro x hx
    simp only [xConfig, List.mem_cons, List.not_mem_nil, or_false] at hx
    rcases hx with rfl | rfl | rfl | rfl
    · exact .raw
    · exact .raw
    · exact .raw
    · exact o3
  · exact .cons rfl (.cons rfl (.cons rfl (.cons (fine_RS hfi3) (.nil))))
set_option maxRecDepth 100000 in
set_option maxHeartbeats 400000 in
theorem lifted (os : Os) (started : os.Started) (H : Type) (enc : TypeId × Value → H) :
    ReturnsInHanded {} Try.checked os 13 .any (Rows.fnExactChooseSpec.pre6 enc Try.prog Try.f13 Rows.fnExactChooseRow.domain false) (Rows.fnExactChooseSpec.post enc Try.prog Try.f13 false true false false) := by
  refine returnsInHanded_of_change_sized (C := Try.checked) own started (by kernel_rfl) Try.func13
    (ChangeSpec.witness6 (enc := enc) (C := Try.checked) false ⟨#[], #[.agg #[.int .i64 0, .int .i64 0, .int .i64 0, .slice none 0 0], .int .u64 0, .slice none 0 0], []⟩ 8 (by kernel_rfl) (by kernel_rfl) (by kernel_rfl) (by kernel_rfl)) ?_
  intro W base args ds gs before hval0 hW hcnd hsz0 _
  have hsz : (DataW.weightsEach Try.prog (Try.f13.params.toList ++ Rows.fnExactChooseSpec.plain.varTypes Try.prog) (ds ++ gs)).all (· ≤ reachBytes) = true := hsz0
  have hval : ∀ (j : Nat) t v, Try.f13.params[j]? = some t → args[j]? = some v → Value.okWide Try.prog W .any base t v := hval0
  have hW' := hW
  obtain ⟨p, q, hA0, hV, rfl, hfz, hnd⟩ := hW
  have hA : DataW.TrodAll enc Try.prog W 0 (fun _ => true) true Try.f13.params.toList args.toList ds p := hA0
  rw [Try.params13] at hA hval hsz
  obtain ⟨v0, vs0, d0, ds0, p0, q0, hargs, rfl, rfl, h0', r0⟩ := trodAll_cons hA
  obtain ⟨v1, vs1, d1, ds1, p1, q1, rfl, rfl, rfl, h1', r1⟩ := trodAll_cons r0
  obtain ⟨v2, vs2, d2, ds2, p2, q2, rfl, rfl, rfl, h2', r2⟩ := trodAll_cons r1
  obtain ⟨rfl, rfl, rfl⟩ := trodAll_nil r2
  obtain rfl : args = #[v0, v1, v2] := by cases args; simp_all
  obtain ⟨rfl, rfl⟩ := trodVars_none hV
  have hw0 := hval 0 33 v0 rfl rfl
  have k0 := h0'
  have lt0 : ∀ x ∈ p0, x.block < W.heap.size := by obtain ⟨m, hm⟩ := k0; exact DataW.trod_lt m _ _ _ hm
  have hw1 := hval 1 22 v1 rfl rfl
  have k1 := h1'
  have lt1 : ∀ x ∈ p1, x.block < W.heap.size := by obtain ⟨m, hm⟩ := k1; exact DataW.trod_lt m _ _ _ hm
  have hw2 := hval 2 40 v2 rfl rfl
  have k2 := h2'
  have lt2 : ∀ x ∈ p2, x.block < W.heap.size := by obtain ⟨m, hm⟩ := k2; exact DataW.trod_lt m _ _ _ hm
  obtain ⟨F0, c0, rfl, hf0, ok0, rs0⟩ := argConfig h0' hw0
  obtain ⟨n1, rfl, _, _, w1⟩ := open_int Try.underlying22 hw1 h1'
  obtain ⟨a2, len2, cap2, rfl⟩ := okWide_slice Try.underlying40 hw2
  have hc2 : Cell.okWide Try.prog W .any base 40 (.slice a2 len2 cap2) := by simpa only [Value.okWide, Try.underlying40] using hw2
  have hfi2 := okWide_row Try.underlying40 hw2
  obtain ⟨f2, z2, hv2, hf2, ok2⟩ : ∃ (f : Adr) (zs : List Int), f [] = .slice a2 len2 cap2 ∧ zs.length ≤ 9223372036854775807 ∧ Ok (h0 W) (g0 W) (.sl f 1 (ints zs)) := by
    obtain ⟨fuel, hf⟩ := h2'
    exact arg_ints Try.underlying40 Try.underlying3 (by kernel_rfl) hc2 hf
  clear hA0 hval0 hsz0 hsz
  have hall : ∀ x ∈ [.st (xConfig F0 c0), .raw (.int .u64 n1), .sl f2 1 (ints z2)], Ok (h0 W) (g0 W) x := by
    intro x hx
    simp only [List.mem_cons, List.not_mem_nil, or_false] at hx
    rcases hx with rfl | rfl | rfl
    · exact .st ok0
    · exact .raw
    · exact ok2
  have hrs : ∀ v ∈ [.st (xConfig F0 c0), .raw (.int .u64 n1), .sl f2 1 (ints z2)].map Bi.er, R (ι0 W) v v := by
    intro v hv
    simp only [List.map_cons, List.map_nil, List.mem_cons, List.not_mem_nil, or_false] at hv
    rcases hv with rfl | rfl | rfl
    · exact (by simp only [Bi.er, ers_eq]; exact R_agg rs0)
    · exact rfl
    · exact (by simp only [Bi.er, hv2]; exact RS.toR (fine_RS hfi2))
  have hlaw := law_call (fun g => FnExactChoose_ok hf0  hf2) hall hrs
  have hlist : ([.st (xConfig F0 c0), .raw (.int .u64 n1), .sl f2 1 (ints z2)].map Bi.er).toArray = #[.agg ((xConfig F0 c0).map Bi.er).toArray, .int .u64 n1, .slice a2 len2 cap2] := by
    simp only [List.map_cons, List.map_nil, Bi.er, ers_eq, hv2]
  rw [hlist] at hlaw
  refine hlaw.mono fun e W' ⟨he, bel⟩ => ?_
  subst he
  exact ⟨_, rfl, _, _, _, [], _, [], hW', trodAll_mk1 (shut_bool Try.underlying4 _), (trodAll_cons_mk (Below.trod laidOut (by kernel_rfl) (of_decide_eq_true (by kernel_rfl)) k0 bel lt0) (trodAll_cons_mk (Below.trod laidOut (by kernel_rfl) (of_decide_eq_true (by kernel_rfl)) k1 bel lt1) (trodAll_cons_mk (Below.trod laidOut (by kernel_rfl) (of_decide_eq_true (by kernel_rfl)) k2 bel lt2) trodAll_mk0))), rfl, bel.frame _, fun h => by cases h⟩
theorem over : Rows.fnExactChooseRow.holds Try.pinned (OpenSpec.ofChange Rows.fnExactChooseSpec) :=
  OpenClaim.holds_of_wide 13 Try.f13 rfl rfl rfl rfl rfl rfl rfl ⟨rfl, rfl, rfl, rfl, rfl⟩ rfl rfl rfl rfl rfl (by kernel_rfl) Try.func13 (by kernel_rfl)
    (of_decide_eq_true (by kernel_rfl)) (by unfold Func.isWrapper; first | (rw [if_pos (by decide +kernel)]; kernel_rfl) | (rw [if_neg (by decide +kernel)]; exact ⟨rfl, rfl⟩))
    (fun os started H enc _ => lifted os started H enc)
end Go.Proofs.Ytdakdjpndomdpaa.fnExactChoose
namespace Go.Proofs.Ytdakdjpndomdpaa
theorem fnExactChoose_holds : Rows.FnExactChooseSaid := fnExactChoose.over
end Go.Proofs.Ytdakdjpndomdpaa
#print axioms Go.Proofs.Ytdakdjpndomdpaa.fnExactChoose_holds
