/- Own lemmas that the theorem of this claim needs: the abstract machine and walks of functions. -/
import Derived.Test.YtjofbadmkigkjaaGreatReLawAR
import Derived.Lib.IndexMore
import Derived.Test.YtjofbadmkigkjaaGreatProg
import Derived.Shelf.Strings.Shaped
set_option linter.unusedSimpArgs false
set_option linter.unusedVariables false
open Nat renaming reduceBEq → rq1, reduceAdd → rq2, reduceLeDiff → rq3, reduceMul → rq4
open Int renaming reduceLE → rq5, reduceLT → rq6, reduceBEq → rq7
section
set_option maxRecDepth 20000
namespace Go.Bi
open Go.Proofs
open Go.Ai (wrap_i64 wrap_u8)
variable {W0 : World} {P : Program}
set_option maxHeartbeats 8000000
theorem implAdmitted_ok {F F' : Nat → Adr} {f : Adr} {e : LEngine} {p : List Int} {c : LConfig} {g : H2} (hs : szEngine e ≤ 1048576) (hp : p.length ≤ 1048576) (hc : szConfig c ≤ 1048576) : WC2 Tryz.prog W0 113 [.st (xEngine F e), .sl f 1 (ints p), .st (xConfig F' c)] g fun x g' => g.le g' ∧ ∃ bs, RTup3 (eEngine (admE e p c)) (.int .i64 (admN e p c)) (.int .i64 (admitI e p c)) x g' bs ∧ Bl (hn g .mk) (hn g' .mk) bs := by
  have hsz : szEngine e = szModel e.model + szStore e.store + (e.requests.length + sumN szRequest e.requests) := rfl
  have hszm : e.model.merges.length ≤ szModel e.model := by unfold szModel; simp only [szMergeS]; omega
  have hm : e.model.merges.length ≤ 1048576 := by omega
  have hszr : e.requests.length ≤ 1048576 := by omega
  have hcl : c.stops.length ≤ 9223372036854775807 := by unfold szConfig at hc; omega
  refine begins [[0, 1, 2], [1, 3, 5, 6], [1, 3, 5, 6, 9], [1, 3, 5, 6, 9, 10], [6, 9, 10], [1, 3, 5, 6, 9], [3, 6, 9]] Tryz.func113 rfl (rs := [.cell 6 41, .tmp 7, .tmp 8]) rfl rfl ?_
  intro wf
  have nq0 : ((hn g .mk) == (hn g .mk + 1)) = false := zne
  have nq1 : ((hn g .mk + 1) == (hn g .mk)) = false := zne
  have nq2 : ((hn g .mk) == (hn g .mk + 1 + 1)) = false := zne
  have nq3 : ((hn g .mk + 1 + 1) == (hn g .mk)) = false := zne
  have nq4 : ((hn g .mk + 1) == (hn g .mk + 1 + 1)) = false := zne
  have nq5 : ((hn g .mk + 1 + 1) == (hn g .mk + 1)) = false := zne
  repeat (first | rw [ko] | rw [kr] | simp -dsimp -implicitDefEqProofs only [go_sem, rq1, hoo, nq0, nq2])
  refine wz_intro (cloneEngine_new hs) ?_
  rintro _ g1 ⟨l1, ys, bs, rfl, o1, bl1⟩
  try simp only [hn_push] at bl1
  have na := l1.1
  try simp only [hn_push] at na
  have ra0 := l1.2 (hn g .mk) zau
  have ra1 := l1.2 (hn g .mk + 1) zau
  have ra2 := l1.2 (hn g .mk + 1 + 1) zau
  simp -dsimp -implicitDefEqProofs only [go_sem, hoo, nq0, nq2, nq4] at ra0 ra1 ra2
  obtain ⟨s3, s4, s5, s6, s8, s9, s12, s13, s14, s15, s16, bM, b14, b15, b16, rfl, rfl, oM, o14, o15, o16⟩ := invEngine3 o1
  obtain ⟨c3, c4, c5, c6, c8, c9, c12, c13⟩ := oM.cellM
  have c14 := o14.cell
  have c15 := o15.cell
  have c16 := o16.cell
  have L1 : g.le g1 := H2.le.trans zale l1
  have dM : ∀ x ∈ bM, x ∉ b16 := fun x h1 h2 => bl1.split.2.2 x h1 (by simp [h2])
  have d14 : ∀ x ∈ b14, x ∉ b16 := fun x h1 h2 => bl1.split.2.1.split.2.2 x h1 (by simp [h2])
  have d15 : ∀ x ∈ b15, x ∉ b16 := fun x h1 h2 => bl1.split.2.1.split.2.1.split.2.2 x h1 h2
  have blM := bl1.split.1
  have bl14 := bl1.split.2.1.split.1
  have bl15 := bl1.split.2.1.split.2.1.split.1
  have bl16 := bl1.split.2.1.split.2.1.split.2.1
  have nq6 : ((hn g .mk) == (hn g1 .mk)) = false := zne
  have nq7 : ((hn g1 .mk) == (hn g .mk)) = false := zne
  have nq8 : ((hn g .mk + 1) == (hn g1 .mk)) = false := zne
  have nq9 : ((hn g1 .mk) == (hn g .mk + 1)) = false := zne
  have nq10 : ((hn g .mk + 1 + 1) == (hn g1 .mk)) = false := zne
  have nq11 : ((hn g1 .mk) == (hn g .mk + 1 + 1)) = false := zne
  repeat (first | rw [ko] | rw [kr] | simp -dsimp -implicitDefEqProofs only [go_sem, rq1, rq2, hoo, nq6, nq8, ra0, ra1, c3, c4, c5, c6, c8, c9, c12, c13, c14, c15, c16])
  repeat (first | rw [ko] | rw [kr] | simp -dsimp -implicitDefEqProofs only [go_sem, rq1, rq2, rq3, rq4, rq5, rq6, rq7, hoo, nq0, nq1, nq2, nq3, nq4, nq5, nq6, nq7, nq8, nq9, nq10, nq11, ra0, ra1, ra2, c3, c4, c5, c6, c8, c9, c12, c13, c14, c15, c16])
  refine pw_intro (implAdmit_ok (F := F) (F' := F') (f := f) (e := e) (p := p) (c := c) hm hp hcl) ?_
  rintro _ n1 hn1 rfl
  try simp only [hn_push] at hn1
  by_cases k0 : admitI e p c = 0
  rotate_left
  · have hA : admE e p c = e := by simp only [admE, if_neg k0]
    have hN : admN e p c = 0 := by simp only [admN, if_neg k0]
    rw [hA, hN]
    repeat (first | rw [ko] | rw [kr] | simp -dsimp -implicitDefEqProofs only [go_sem, rq1, rq2, hoo, nq10, ra2, c3, c4, c5, c6, c8, c9, c12, c13, c14, c15, c16, k0])
    refine ⟨zale, bM ++ (b14 ++ (b15 ++ b16)), ⟨_, rfl, outEngine3 (c := e) (oM.frame fun q hq => by
        have h1 := blM.2 q hq
        simp only [H2.set, H2.push, H2.up]
        repeat (first | rfl | rw [if_neg (by first | omega | (unfold hn at *; omega))])) (o14.frame fun q hq => by
        have h1 := bl14.2 q hq
        simp only [H2.set, H2.push, H2.up]
        repeat (first | rfl | rw [if_neg (by first | omega | (unfold hn at *; omega))])) (o15.frame fun q hq => by
        have h1 := bl15.2 q hq
        simp only [H2.set, H2.push, H2.up]
        repeat (first | rfl | rw [if_neg (by first | omega | (unfold hn at *; omega))])) (o16.frame fun q hq => by
        have h1 := bl16.2 q hq
        simp only [H2.set, H2.push, H2.up]
        repeat (first | rfl | rw [if_neg (by first | omega | (unfold hn at *; omega))]))⟩, ?_⟩
    simp only [hn_set, hn_up]
    exact bl1.wide (by omega) (by omega)
  have hA : admE e p c = ⟨e.model, e.store, e.requests ++ [newReq p c]⟩ := by simp only [admE, if_pos k0]
  have hN : admN e p c = e.requests.length := by simp only [admN, if_pos k0]
  rw [hA, hN, k0]
  repeat (first | rw [ko] | rw [kr] | simp -dsimp -implicitDefEqProofs only [go_sem, rq1, hoo])
  refine dq_intro [(0, []), (1, []), (2, []), (3, []), (4, []), (6, []), (8, []), (9, []), (5, [1, 6, 9]), (7, [1, 9]), (10, [1]), (11, []), (12, [1]), (13, []), (14, []), (15, [])] (by kernel_rfl) ?_
  repeat (first | rw [ko] | rw [kr] | simp -dsimp -implicitDefEqProofs only [go_sem, rq1, hoo, nq8, ra1])
  refine wz_intro (cloneI_new hp) ?_
  rintro sA gA ⟨lA, bA, oA, blA⟩
  try simp only [hn_up] at blA
  have nA := lA.1
  try simp only [hn_up] at nA
  have rA0 := lA.2 (hn g .mk) zau
  have rA1 := lA.2 (hn g .mk + 1) zau
  have rA2 := lA.2 (hn g .mk + 1 + 1) zau
  have rA3 := lA.2 (hn g1 .mk) zau
  simp -dsimp -implicitDefEqProofs only [go_sem, hoo, nq6, nq8, nq10, ra0, ra1, ra2] at rA0 rA1 rA2 rA3
  replace oM : OTs gA bM [.raw (.int .i64 e.model.dim), .raw (.int .i64 e.model.heads), .raw (.int .i64 e.model.context), s3, s4, s5, s6, .raw (.int .i64 e.model.head.width), s8, s9, .raw (.int .i64 e.model.head.mul), .raw (.int .i64 e.model.head.shift), s12, s13] (eModel e.model) := oM.frame fun q hq => by
    have hq1 := blM.2 q hq
    exact (show gA.get q = _ from lA.2 q zau).trans zfz
  replace o14 : OT gA b14 s14 (.l 1 (ints e.store.refs)) := o14.frame fun q hq => by
    have hq1 := bl14.2 q hq
    exact (show gA.get q = _ from lA.2 q zau).trans zfz
  replace o15 : OT gA b15 s15 (.l 1 (rCellSS e.store.pages)) := o15.frame fun q hq => by
    have hq1 := bl15.2 q hq
    exact (show gA.get q = _ from lA.2 q zau).trans zfz
  replace o16 : OT gA b16 s16 (.l 10 (rRequestS e.requests)) := o16.frame fun q hq => by
    have hq1 := bl16.2 q hq
    exact (show gA.get q = _ from lA.2 q zau).trans zfz
  have cA := OT.cell oA
  try (rw [kq]; refine ⟨by simp -dsimp -implicitDefEqProofs only [go_sem, rq1, hoo, rA1, rA3], ?_⟩)
  repeat (first | rw [ko] | rw [kr] | simp -dsimp -implicitDefEqProofs only [go_sem, hoo])
  refine wz_intro (cloneConfig_new (F := F') (c := c) hc) ?_
  rintro _ gC ⟨lC, ysC, bC, rfl, oC', blC⟩
  obtain ⟨_, sC, rfl, rfl, oC⟩ := invConfig oC'
  try simp only [hn_push, hn_up] at blC
  have nC := lC.1
  try simp only [hn_push, hn_set, hn_up] at nC
  have rC0 := lC.2 (hn g .mk) zau
  have rC1 := lC.2 (hn g .mk + 1) zau
  have rC2 := lC.2 (hn g .mk + 1 + 1) zau
  have rC3 := lC.2 (hn g1 .mk) zau
  simp -dsimp -implicitDefEqProofs only [go_sem, rA0, rA1, rA2, rA3] at rC0 rC1 rC2 rC3
  replace oM : OTs gC bM [.raw (.int .i64 e.model.dim), .raw (.int .i64 e.model.heads), .raw (.int .i64 e.model.context), s3, s4, s5, s6, .raw (.int .i64 e.model.head.width), s8, s9, .raw (.int .i64 e.model.head.mul), .raw (.int .i64 e.model.head.shift), s12, s13] (eModel e.model) := oM.frame fun q hq => by
    have hq1 := blM.2 q hq
    exact (show gC.get q = _ from lC.2 q zau).trans zfz
  replace o14 : OT gC b14 s14 (.l 1 (ints e.store.refs)) := o14.frame fun q hq => by
    have hq1 := bl14.2 q hq
    exact (show gC.get q = _ from lC.2 q zau).trans zfz
  replace o15 : OT gC b15 s15 (.l 1 (rCellSS e.store.pages)) := o15.frame fun q hq => by
    have hq1 := bl15.2 q hq
    exact (show gC.get q = _ from lC.2 q zau).trans zfz
  replace o16 : OT gC b16 s16 (.l 10 (rRequestS e.requests)) := o16.frame fun q hq => by
    have hq1 := bl16.2 q hq
    exact (show gC.get q = _ from lC.2 q zau).trans zfz
  replace oA : OT gC bA sA (.l 1 (ints p)) := oA.frame fun q hq => by
    have hq1 := blA.2 q hq
    exact (show gC.get q = _ from lC.2 q zau).trans zfz
  have cC := OT.cell oC
  try (rw [kq]; refine ⟨by simp -dsimp -implicitDefEqProofs only [go_sem, rq1, hoo, rC1, rC3], ?_⟩)
  repeat (first | rw [ko] | rw [kr] | simp -dsimp -implicitDefEqProofs only [go_sem, hoo])
  refine wz_intro implSeed_ok ?_
  rintro _ gS ⟨rfl, hgS⟩
  obtain rfl : gC = gS := hgS.symm
  try (rw [kq]; refine ⟨by simp -dsimp -implicitDefEqProofs only [go_sem, rq1, hoo, rC3], ?_⟩)
  repeat (first | rw [ko] | rw [kr] | simp -dsimp -implicitDefEqProofs only [go_sem, rq1, rq2, rq3, rq4, hoo, cA])
  refine lit_intro rfl ?_
  intro w9 g9 hs9 l9
  have nL := l9.1
  try simp only [hn_push, hn_set, hn_up] at nL
  have rL0 := l9.2 (hn g .mk) zau
  have rL1 := l9.2 (hn g .mk + 1) zau
  have rL2 := l9.2 (hn g .mk + 1 + 1) zau
  have rL3 := l9.2 (hn g1 .mk) zau
  simp -dsimp -implicitDefEqProofs only [go_sem, rC0, rC1, rC2, rC3] at rL0 rL1 rL2 rL3
  replace oM : OTs g9 bM [.raw (.int .i64 e.model.dim), .raw (.int .i64 e.model.heads), .raw (.int .i64 e.model.context), s3, s4, s5, s6, .raw (.int .i64 e.model.head.width), s8, s9, .raw (.int .i64 e.model.head.mul), .raw (.int .i64 e.model.head.shift), s12, s13] (eModel e.model) := oM.frame fun q hq => by
    have hq1 := blM.2 q hq
    exact (show g9.get q = _ from l9.2 q zau).trans zfz
  replace o14 : OT g9 b14 s14 (.l 1 (ints e.store.refs)) := o14.frame fun q hq => by
    have hq1 := bl14.2 q hq
    exact (show g9.get q = _ from l9.2 q zau).trans zfz
  replace o15 : OT g9 b15 s15 (.l 1 (rCellSS e.store.pages)) := o15.frame fun q hq => by
    have hq1 := bl15.2 q hq
    exact (show g9.get q = _ from l9.2 q zau).trans zfz
  replace o16 : OT g9 b16 s16 (.l 10 (rRequestS e.requests)) := o16.frame fun q hq => by
    have hq1 := bl16.2 q hq
    exact (show g9.get q = _ from l9.2 q zau).trans zfz
  replace oA : OT g9 bA sA (.l 1 (ints p)) := oA.frame fun q hq => by
    have hq1 := blA.2 q hq
    exact (show g9.get q = _ from l9.2 q zau).trans zfz
  replace oC : OT g9 bC sC (.l 1 (strs c.stops)) := oC.frame fun q hq => by
    have hq1 := blC.2 q hq
    exact (show g9.get q = _ from l9.2 q zau).trans zfz
  try (rw [kq]; refine ⟨by simp -dsimp -implicitDefEqProofs only [go_sem, rq1, hoo, rL3], ?_⟩)
  repeat (first | rw [ko] | rw [kr] | simp -dsimp -implicitDefEqProofs only [go_sem, rq1, hoo])
  have oL := outRequest (c := newReq p c) oA oC (OT.nil (g := g9) (z := 1))
  have bX := blA.append (blC.append (Bl.nil (N := hn gC .mk) (M := hn gC .mk)) (by omega) (by omega)) (by omega) (by omega)
  obtain ⟨b0, gr, sub0, own0⟩ := o16.gr (bl16.wide (Nat.le_refl _) (by omega))
  have hvl := gr.lt
  rw [rRequestS_len] at gr
  refine append_gr2 (P := Tryz.prog) (D := fun _ => none) (N := hn g .mk + 1 + 1 + 1) (us := eRequest (newReq p c)) Go.Ai.ty_el39 Go.Ai.ty_zr102 rfl Go.Ai.ty_cl39 gr hs9 oL rfl (by omega) (fun q hb => by have := bX.2 q hb; omega) bX.1 (fun q hb hb' => by have := bl16.2 q (sub0 q hb); have := bX.2 q hb'; omega) (fun q e hb' => by have := bl16.2 q (own0 q e); have := bX.2 q hb'; omega) (by have : Go.Ai.most = 1099511627776 := rfl; have := hszr; omega) ?_
  intro v' g10 gr10 n10 le10 fr10 new10
  have hv' := Gr.cell gr10
  have rN0 := (fr10 (hn g .mk) (by omega) (fun e => by have := bl16.2 _ (own0 _ e); omega)).trans rL0
  have rN1 := (fr10 (hn g .mk + 1) (by omega) (fun e => by have := bl16.2 _ (own0 _ e); omega)).trans rL1
  have rN2 := (fr10 (hn g .mk + 1 + 1) (by omega) (fun e => by have := bl16.2 _ (own0 _ e); omega)).trans rL2
  have rN3 := (fr10 (hn g1 .mk) (by omega) (fun e => by have := bl16.2 _ (own0 _ e); omega)).trans rL3
  obtain ⟨b6, o6, bl6, sub6⟩ := Gr.treeX (es := rRequestS (e.requests ++ [newReq p c])) (by rw [show rRequestS (e.requests ++ [newReq p c]) = rRequestS e.requests ++ [eRequest (newReq p c)] by simp [rRequestS], List.flatten_append]; exact gr10) (by rw [rRequestS_len, List.length_append]; rfl) (fun e he => by obtain ⟨x, _, rfl⟩ := List.mem_map.1 he; rfl)
  try (rw [kq]; refine ⟨zsm, ?_⟩)
  repeat (first | rw [ko] | rw [kr] | simp -dsimp -implicitDefEqProofs only [go_sem, rq1, hoo, rN3, hv'])
  refine dq_intro [(0, []), (1, []), (2, []), (3, []), (4, [2]), (5, []), (6, [])] (by kernel_rfl) ?_
  repeat (first | rw [ko] | rw [kr] | simp -dsimp -implicitDefEqProofs only [go_sem, rq1, rq2, hoo, nq2, nq6, nq10, rN0, rN2, c3, c4, c5, c6, c8, c9, c12, c13, c14, c15, hv'])
  have dj : ∀ x ∈ b6, x ∈ b16 ∨ hn g1 .mk < x := fun x hx => by
    rcases sub6 x hx with h | h
    · rcases List.mem_append.1 h with h | h
      · exact .inl (sub0 x h)
      · have := bX.2 x h; exact .inr (by omega)
    · have := new10 x h; exact .inr (by omega)
  have L9 : g1.le g9 := H2.le.trans zale (lA.trans (lC.trans l9))
  refine ⟨by repeat (first | exact L1 | refine le_set ?_ (by omega) | exact le10 g (by omega) (L1.trans L9)), bM ++ (b14 ++ (b15 ++ b6)), ⟨_, rfl, outEngine3 (c := ⟨e.model, e.store, e.requests ++ [newReq p c]⟩) (oM.frame fun q hq => by
      have h1 := blM.2 q hq
      have h2 := dM q hq
      simp only [H2.set]
      repeat rw [if_neg (by first | omega | (unfold hn at *; omega))]
      exact fr10 q (by omega) (fun e => h2 (own0 _ e))) (o14.frame fun q hq => by
      have h1 := bl14.2 q hq
      have h2 := d14 q hq
      simp only [H2.set]
      repeat rw [if_neg (by first | omega | (unfold hn at *; omega))]
      exact fr10 q (by omega) (fun e => h2 (own0 _ e))) (o15.frame fun q hq => by
      have h1 := bl15.2 q hq
      have h2 := d15 q hq
      simp only [H2.set]
      repeat rw [if_neg (by first | omega | (unfold hn at *; omega))]
      exact fr10 q (by omega) (fun e => h2 (own0 _ e))) (o6.frame fun q hq => by
      have h1 := bl6.2 q hq
      have h2 := dj q hq
      have h3 : q ≠ hn g1 .mk := by
        rcases h2 with h | h
        · have := bl16.2 q h; omega
        · omega
      simp only [H2.set]
      repeat rw [if_neg (by first | omega | (unfold hn at *; omega))])⟩, ?_⟩
  simp only [hn_set]
  have hB := Bl.repl (A := bM ++ (b14 ++ b15)) (B := b16) (B' := b6) (by simpa only [List.append_assoc] using bl1) bl6 (fun x hx => (dj x hx).imp_right (fun h => by omega)) (by omega)
  simp only [List.append_assoc] at hB
  exact hB.wide (by omega) (Nat.le_refl _)
theorem implSubmit_ok {F F' : Nat → Adr} {f : Adr} {e : LEngine} {p : List Int} {c : LConfig} {g : H2} (hs : szEngine e ≤ 1048576) (hp : p.length ≤ 1048576) (hc : szConfig c ≤ 1048576) : WC2 Tryz.prog W0 40 [.st (xEngine F e), .sl f 1 (ints p), .st (xConfig F' c)] g fun x g' => g.le g' ∧ ∃ bs, RTup3 (eEngine (subE e p c)) (.int .i64 (subN e p c)) (.int .i64 (subK e p c)) x g' bs ∧ Bl (hn g .mk) (hn g' .mk) bs := by
 refine begins [[0, 1, 2], [1, 3, 5, 6], [3, 6], [1, 3, 5, 6]] Tryz.func40 rfl (rs := [.cell 6 41, .tmp 7, .tmp 8]) rfl rfl ?_
 intro wf
 have n01 : (hn g .mk == hn g .mk + 1) = false := by simp
 have n10 : (hn g .mk + 1 == hn g .mk) = false := by simp
 have n02 : (hn g .mk == hn g .mk + 1 + 1) = false := zne
 have n20 : (hn g .mk + 1 + 1 == hn g .mk) = false := zne
 have n12 : (hn g .mk + 1 == hn g .mk + 1 + 1) = false := by simp
 have n21 : (hn g .mk + 1 + 1 == hn g .mk + 1) = false := by simp
 repeat (first | rw [ko] | rw [kr] | simp -dsimp -implicitDefEqProofs only [go_sem, rq1, hoo, n01, n02])
 refine pw_intro (implEngine_ok (F := F) (smallEng_of hs)) ?_
 rintro _ m0 hm0 rfl
 try simp only [hn_push] at hm0
 cases hE : engB e
 ·have hA : subE e p c = e := by unfold subE; rw [if_neg (by rw [hE]; simp)]
  have hN : subN e p c = 0 := by unfold subN; rw [if_neg (by rw [hE]; simp)]
  have hK : subK e p c = 6 := by unfold subK; rw [if_neg (by rw [hE]; simp)]
  rw [hA, hN, hK]
  repeat (first | rw [ko] | rw [kr] | simp -dsimp -implicitDefEqProofs only [go_sem, rq1, hoo, n01, n02])
  refine wz_intro (cloneEngine_new (F := F) hs) ?_
  rintro _ g1 ⟨l1, ys, bs, rfl, o1, bl1⟩
  try simp only [hn_up] at bl1
  have m1 := l1.1
  try simp only [hn_up] at m1
  have ra0 := l1.2 (hn g .mk) zau
  have ra1 := l1.2 (hn g .mk + 1) zau
  have ra2 := l1.2 (hn g .mk + 1 + 1) zau
  simp -dsimp -implicitDefEqProofs only [go_sem, hoo, n01, n02, n12] at ra0 ra1 ra2
  obtain ⟨s3, s4, s5, s6, s8, s9, s12, s13, s14, s15, s16, bM, b14, b15, b16, rfl, rfl, oM, o14, o15, o16⟩ := invEngine3 o1
  obtain ⟨c3, c4, c5, c6, c8, c9, c12, c13⟩ := oM.cellM
  have c14 := o14.cell
  have c15 := o15.cell
  have c16 := o16.cell
  repeat (first | rw [ko] | rw [kr] | simp -dsimp -implicitDefEqProofs only [go_sem, rq1, rq2, hoo, ra2, c3, c4, c5, c6, c8, c9, c12, c13, c14, c15, c16])
  have L1 : g.le g1 := H2.le.trans zale l1
  refine ⟨le_set L1 (by omega), _, ⟨_, rfl, o1.frame fun q hq => by
   have h1 := bl1.2 q hq
   simp only [H2.set]
   rw [if_neg (by omega)]⟩, ?_⟩
  simp only [hn_set]
  exact bl1.wide (by omega) (Nat.le_refl _)
 have hA : subE e p c = admE e p c := by unfold subE; rw [if_pos hE]
 have hN : subN e p c = admN e p c := by unfold subN; rw [if_pos hE]
 have hK : subK e p c = admitI e p c := by unfold subK; rw [if_pos hE]
 rw [hA, hN, hK]
 repeat (first | rw [ko] | rw [kr] | simp -dsimp -implicitDefEqProofs only [go_sem, rq1, hoo, n01, n02, n12])
 refine wz_intro (implAdmitted_ok (F := F) (F' := F') (f := f) hs hp hc) ?_
 rintro _ g1 ⟨l1, bs, ⟨ys, rfl, o1⟩, bl1⟩
 try simp only [hn_up] at bl1
 have m1 := l1.1
 try simp only [hn_up] at m1
 have ra0 := l1.2 (hn g .mk) zau
 have ra1 := l1.2 (hn g .mk + 1) zau
 have ra2 := l1.2 (hn g .mk + 1 + 1) zau
 simp -dsimp -implicitDefEqProofs only [go_sem, hoo, n01, n02, n12] at ra0 ra1 ra2
 obtain ⟨s3, s4, s5, s6, s8, s9, s12, s13, s14, s15, s16, bM, b14, b15, b16, rfl, rfl, oM, o14, o15, o16⟩ := invEngine3 o1
 obtain ⟨c3, c4, c5, c6, c8, c9, c12, c13⟩ := oM.cellM
 have c14 := o14.cell
 have c15 := o15.cell
 have c16 := o16.cell
 repeat (first | rw [ko] | rw [kr] | simp -dsimp -implicitDefEqProofs only [go_sem, rq1, rq2, hoo, ra2, c3, c4, c5, c6, c8, c9, c12, c13, c14, c15, c16])
 have L1 : g.le g1 := H2.le.trans zale l1
 refine ⟨le_set L1 (by omega), _, ⟨_, rfl, o1.frame fun q hq => by
  have h1 := bl1.2 q hq
  simp only [H2.set]
  rw [if_neg (by omega)]⟩, ?_⟩
 simp only [hn_set]
 exact bl1.wide (by omega) (Nat.le_refl _)
theorem specSubmit_ok {F F' : Nat → Adr} {f : Adr} {e : LEngine} {p : List Int} {c : LConfig} {g : H2} (hs : szEngine e ≤ 1048576) (hrg : rngEngine e) (hp : p.length ≤ 1048576) (hc : szConfig c ≤ 1048576) : WC2 Tryz.prog W0 37 [.st (xEngine F e), .sl f 1 (ints p), .st (xConfig F' c)] g fun x g' => g.le g' ∧ ∃ bs, RTup3 (eEngine (subE e p c)) (.int .i64 (subN e p c)) (.int .i64 (subK e p c)) x g' bs ∧ Bl (hn g .mk) (hn g' .mk) bs := by
  have hsz : szEngine e = szModel e.model + szStore e.store + (e.requests.length + sumN szRequest e.requests) := rfl
  have hszm : e.model.merges.length ≤ szModel e.model := by unfold szModel; simp only [szMergeS]; omega
  have hm : e.model.merges.length ≤ 1048576 := by omega
  have hszr : e.requests.length ≤ 1048576 := by omega
  have hcl : c.stops.length ≤ 9223372036854775807 := by unfold szConfig at hc; omega
  refine begins [[0, 1, 2], [1, 3, 5, 6], [1, 3, 5, 6, 9], [6, 9], [1, 3, 5, 6, 9], [1, 3, 5, 6, 9, 10], [6, 9, 10], [1, 3, 5, 6, 9], [3, 6, 9]] Tryz.func37 rfl (rs := [.cell 6 41, .tmp 7, .tmp 8]) rfl rfl ?_
  intro wf
  have nq0 : ((hn g .mk) == (hn g .mk + 1)) = false := zne
  have nq1 : ((hn g .mk + 1) == (hn g .mk)) = false := zne
  have nq2 : ((hn g .mk) == (hn g .mk + 1 + 1)) = false := zne
  have nq3 : ((hn g .mk + 1 + 1) == (hn g .mk)) = false := zne
  have nq4 : ((hn g .mk + 1) == (hn g .mk + 1 + 1)) = false := zne
  have nq5 : ((hn g .mk + 1 + 1) == (hn g .mk + 1)) = false := zne
  repeat (first | rw [ko] | rw [kr] | simp -dsimp -implicitDefEqProofs only [go_sem, rq1, hoo, nq0, nq2])
  refine wz_intro (copyEngine_new hs) ?_
  rintro _ g1 ⟨l1, ys, bs, rfl, o1, bl1⟩
  try simp only [hn_push] at bl1
  have na := l1.1
  try simp only [hn_push] at na
  have ra0 := l1.2 (hn g .mk) zau
  have ra1 := l1.2 (hn g .mk + 1) zau
  have ra2 := l1.2 (hn g .mk + 1 + 1) zau
  simp -dsimp -implicitDefEqProofs only [go_sem, hoo, nq0, nq2, nq4] at ra0 ra1 ra2
  obtain ⟨s3, s4, s5, s6, s8, s9, s12, s13, s14, s15, s16, bM, b14, b15, b16, rfl, rfl, oM, o14, o15, o16⟩ := invEngine3 o1
  obtain ⟨c3, c4, c5, c6, c8, c9, c12, c13⟩ := oM.cellM
  have c14 := o14.cell
  have c15 := o15.cell
  have c16 := o16.cell
  have L1 : g.le g1 := H2.le.trans zale l1
  have dM : ∀ x ∈ bM, x ∉ b16 := fun x h1 h2 => bl1.split.2.2 x h1 (by simp [h2])
  have d14 : ∀ x ∈ b14, x ∉ b16 := fun x h1 h2 => bl1.split.2.1.split.2.2 x h1 (by simp [h2])
  have d15 : ∀ x ∈ b15, x ∉ b16 := fun x h1 h2 => bl1.split.2.1.split.2.1.split.2.2 x h1 h2
  have blM := bl1.split.1
  have bl14 := bl1.split.2.1.split.1
  have bl15 := bl1.split.2.1.split.2.1.split.1
  have bl16 := bl1.split.2.1.split.2.1.split.2.1
  have nq6 : ((hn g .mk) == (hn g1 .mk)) = false := zne
  have nq7 : ((hn g1 .mk) == (hn g .mk)) = false := zne
  have nq8 : ((hn g .mk + 1) == (hn g1 .mk)) = false := zne
  have nq9 : ((hn g1 .mk) == (hn g .mk + 1)) = false := zne
  have nq10 : ((hn g .mk + 1 + 1) == (hn g1 .mk)) = false := zne
  have nq11 : ((hn g1 .mk) == (hn g .mk + 1 + 1)) = false := zne
  repeat (first | rw [ko] | rw [kr] | simp -dsimp -implicitDefEqProofs only [go_sem, rq1, rq2, hoo, nq6, ra0, c3, c4, c5, c6, c8, c9, c12, c13, c14, c15, c16])
  refine pw_intro (specEngine_ok (F := F) (smallEng_of hs) hrg) ?_
  rintro _ n0 hn0 rfl
  try simp only [hn_push] at hn0
  cases hE : engB e
  · have hA : subE e p c = e := by unfold subE; rw [if_neg (by rw [hE]; simp)]
    have hN : subN e p c = 0 := by unfold subN; rw [if_neg (by rw [hE]; simp)]
    have hK : subK e p c = 6 := by unfold subK; rw [if_neg (by rw [hE]; simp)]
    rw [hA, hN, hK]
    repeat (first | rw [ko] | rw [kr] | simp -dsimp -implicitDefEqProofs only [go_sem, rq1, rq2, hoo, nq10, ra2, c3, c4, c5, c6, c8, c9, c12, c13, c14, c15, c16])
    refine ⟨zale, bM ++ (b14 ++ (b15 ++ b16)), ⟨_, rfl, outEngine3 (c := e) (oM.frame fun q hq => by
        have h1 := blM.2 q hq
        simp only [H2.set, H2.push, H2.up]
        repeat (first | rfl | rw [if_neg (by first | omega | (unfold hn at *; omega))])) (o14.frame fun q hq => by
        have h1 := bl14.2 q hq
        simp only [H2.set, H2.push, H2.up]
        repeat (first | rfl | rw [if_neg (by first | omega | (unfold hn at *; omega))])) (o15.frame fun q hq => by
        have h1 := bl15.2 q hq
        simp only [H2.set, H2.push, H2.up]
        repeat (first | rfl | rw [if_neg (by first | omega | (unfold hn at *; omega))])) (o16.frame fun q hq => by
        have h1 := bl16.2 q hq
        simp only [H2.set, H2.push, H2.up]
        repeat (first | rfl | rw [if_neg (by first | omega | (unfold hn at *; omega))]))⟩, ?_⟩
    simp only [hn_set, hn_up]
    exact bl1.wide (by omega) (by omega)
  repeat (first | rw [ko] | rw [kr] | simp -dsimp -implicitDefEqProofs only [go_sem, rq1, hoo, nq6, nq8, ra0, ra1])
  refine pw_intro (specAdmit_ok (F := F) (F' := F') (f := f) (e := e) (p := p) (c := c) hm hp hcl) ?_
  rintro _ n1 hn1 rfl
  try simp only [hn_up] at hn1
  by_cases k0 : admitI e p c = 0
  rotate_left
  · have hA : subE e p c = e := by simp only [subE, if_pos hE, admE, if_neg k0]
    have hN : subN e p c = 0 := by simp only [subN, if_pos hE, admN, if_neg k0]
    rw [hA, hN]
    have hK : subK e p c = admitI e p c := by simp only [subK, if_pos hE]
    rw [hK]
    repeat (first | rw [ko] | rw [kr] | simp -dsimp -implicitDefEqProofs only [go_sem, rq1, rq2, hoo, nq10, ra2, c3, c4, c5, c6, c8, c9, c12, c13, c14, c15, c16, k0])
    refine ⟨zale, bM ++ (b14 ++ (b15 ++ b16)), ⟨_, rfl, outEngine3 (c := e) (oM.frame fun q hq => by
        have h1 := blM.2 q hq
        simp only [H2.set, H2.push, H2.up]
        repeat (first | rfl | rw [if_neg (by first | omega | (unfold hn at *; omega))])) (o14.frame fun q hq => by
        have h1 := bl14.2 q hq
        simp only [H2.set, H2.push, H2.up]
        repeat (first | rfl | rw [if_neg (by first | omega | (unfold hn at *; omega))])) (o15.frame fun q hq => by
        have h1 := bl15.2 q hq
        simp only [H2.set, H2.push, H2.up]
        repeat (first | rfl | rw [if_neg (by first | omega | (unfold hn at *; omega))])) (o16.frame fun q hq => by
        have h1 := bl16.2 q hq
        simp only [H2.set, H2.push, H2.up]
        repeat (first | rfl | rw [if_neg (by first | omega | (unfold hn at *; omega))]))⟩, ?_⟩
    simp only [hn_set, hn_up]
    exact bl1.wide (by omega) (by omega)
  have hA : subE e p c = ⟨e.model, e.store, e.requests ++ [newReq p c]⟩ := by simp only [subE, if_pos hE, admE, if_pos k0]
  have hN : subN e p c = e.requests.length := by simp only [subN, if_pos hE, admN, if_pos k0]
  rw [hA, hN]
  have hK : subK e p c = 0 := by simp only [subK, if_pos hE, k0]
  rw [hK]
  have nq12 : ((hn g .mk) == (n1)) = false := zne
  have nq13 : ((n1) == (hn g .mk)) = false := zne
  have nq14 : ((hn g .mk + 1) == (n1)) = false := zne
  have nq15 : ((n1) == (hn g .mk + 1)) = false := zne
  have nq16 : ((hn g .mk + 1 + 1) == (n1)) = false := zne
  have nq17 : ((n1) == (hn g .mk + 1 + 1)) = false := zne
  have nq18 : ((hn g1 .mk) == (n1)) = false := zne
  have nq19 : ((n1) == (hn g1 .mk)) = false := zne
  repeat (first | rw [ko] | rw [kr] | simp -dsimp -implicitDefEqProofs only [go_sem, rq1, hoo, k0])
  refine dq_intro [(0, []), (1, []), (2, []), (3, []), (5, []), (7, []), (9, []), (10, []), (4, [1, 7, 10]), (6, [1, 7, 10]), (8, [1, 10]), (11, [1]), (12, []), (13, [1]), (14, []), (15, []), (16, [])] (by kernel_rfl) ?_
  repeat (first | rw [ko] | rw [kr] | simp -dsimp -implicitDefEqProofs only [go_sem, rq1, rq3, hoo, nq8, nq14, nq18, ra1])
  refine app_ints hp ?_
  intro sA gA bA lA oA blA
  try simp only [hn_up] at blA
  have nA := lA.1
  try simp only [hn_up] at nA
  have rA0 := lA.2 (hn g .mk) zau
  have rA1 := lA.2 (hn g .mk + 1) zau
  have rA2 := lA.2 (hn g .mk + 1 + 1) zau
  have rA3 := lA.2 (hn g1 .mk) zau
  simp -dsimp -implicitDefEqProofs only [go_sem, hoo, nq6, nq8, nq10, ra0, ra1, ra2] at rA0 rA1 rA2 rA3
  replace oM : OTs gA bM [.raw (.int .i64 e.model.dim), .raw (.int .i64 e.model.heads), .raw (.int .i64 e.model.context), s3, s4, s5, s6, .raw (.int .i64 e.model.head.width), s8, s9, .raw (.int .i64 e.model.head.mul), .raw (.int .i64 e.model.head.shift), s12, s13] (eModel e.model) := oM.frame fun q hq => by
    have hq1 := blM.2 q hq
    exact (show gA.get q = _ from lA.2 q zau).trans zfz
  replace o14 : OT gA b14 s14 (.l 1 (ints e.store.refs)) := o14.frame fun q hq => by
    have hq1 := bl14.2 q hq
    exact (show gA.get q = _ from lA.2 q zau).trans zfz
  replace o15 : OT gA b15 s15 (.l 1 (rCellSS e.store.pages)) := o15.frame fun q hq => by
    have hq1 := bl15.2 q hq
    exact (show gA.get q = _ from lA.2 q zau).trans zfz
  replace o16 : OT gA b16 s16 (.l 10 (rRequestS e.requests)) := o16.frame fun q hq => by
    have hq1 := bl16.2 q hq
    exact (show gA.get q = _ from lA.2 q zau).trans zfz
  have cA := OT.cell oA
  try (rw [kq]; refine ⟨by simp -dsimp -implicitDefEqProofs only [go_sem, rq1, hoo, rA1, rA3], ?_⟩)
  repeat (first | rw [ko] | rw [kr] | simp -dsimp -implicitDefEqProofs only [go_sem, hoo])
  refine wz_intro (copyConfig_new (F := F') (c := c) hc) ?_
  rintro _ gC ⟨lC, ysC, bC, rfl, oC', blC⟩
  obtain ⟨_, sC, rfl, rfl, oC⟩ := invConfig oC'
  try simp only [hn_push, hn_up] at blC
  have nC := lC.1
  try simp only [hn_push, hn_set, hn_up] at nC
  have rC0 := lC.2 (hn g .mk) zau
  have rC1 := lC.2 (hn g .mk + 1) zau
  have rC2 := lC.2 (hn g .mk + 1 + 1) zau
  have rC3 := lC.2 (hn g1 .mk) zau
  simp -dsimp -implicitDefEqProofs only [go_sem, rA0, rA1, rA2, rA3] at rC0 rC1 rC2 rC3
  replace oM : OTs gC bM [.raw (.int .i64 e.model.dim), .raw (.int .i64 e.model.heads), .raw (.int .i64 e.model.context), s3, s4, s5, s6, .raw (.int .i64 e.model.head.width), s8, s9, .raw (.int .i64 e.model.head.mul), .raw (.int .i64 e.model.head.shift), s12, s13] (eModel e.model) := oM.frame fun q hq => by
    have hq1 := blM.2 q hq
    exact (show gC.get q = _ from lC.2 q zau).trans zfz
  replace o14 : OT gC b14 s14 (.l 1 (ints e.store.refs)) := o14.frame fun q hq => by
    have hq1 := bl14.2 q hq
    exact (show gC.get q = _ from lC.2 q zau).trans zfz
  replace o15 : OT gC b15 s15 (.l 1 (rCellSS e.store.pages)) := o15.frame fun q hq => by
    have hq1 := bl15.2 q hq
    exact (show gC.get q = _ from lC.2 q zau).trans zfz
  replace o16 : OT gC b16 s16 (.l 10 (rRequestS e.requests)) := o16.frame fun q hq => by
    have hq1 := bl16.2 q hq
    exact (show gC.get q = _ from lC.2 q zau).trans zfz
  replace oA : OT gC bA sA (.l 1 (ints p)) := oA.frame fun q hq => by
    have hq1 := blA.2 q hq
    exact (show gC.get q = _ from lC.2 q zau).trans zfz
  have cC := OT.cell oC
  try (rw [kq]; refine ⟨by simp -dsimp -implicitDefEqProofs only [go_sem, rq1, hoo, rC1, rC3], ?_⟩)
  repeat (first | rw [ko] | rw [kr] | simp -dsimp -implicitDefEqProofs only [go_sem, rq1, hoo])
  refine wz_intro specSeed_ok ?_
  rintro _ gS ⟨rfl, hgS⟩
  obtain rfl : gC = gS := hgS.symm
  try (rw [kq]; refine ⟨by simp -dsimp -implicitDefEqProofs only [go_sem, rq1, hoo, rC3], ?_⟩)
  repeat (first | rw [ko] | rw [kr] | simp -dsimp -implicitDefEqProofs only [go_sem, rq1, rq2, rq3, rq4, hoo, cA])
  refine lit_intro rfl ?_
  intro w9 g9 hs9 l9
  have nL := l9.1
  try simp only [hn_push, hn_set, hn_up] at nL
  have rL0 := l9.2 (hn g .mk) zau
  have rL1 := l9.2 (hn g .mk + 1) zau
  have rL2 := l9.2 (hn g .mk + 1 + 1) zau
  have rL3 := l9.2 (hn g1 .mk) zau
  simp -dsimp -implicitDefEqProofs only [go_sem, rC0, rC1, rC2, rC3] at rL0 rL1 rL2 rL3
  replace oM : OTs g9 bM [.raw (.int .i64 e.model.dim), .raw (.int .i64 e.model.heads), .raw (.int .i64 e.model.context), s3, s4, s5, s6, .raw (.int .i64 e.model.head.width), s8, s9, .raw (.int .i64 e.model.head.mul), .raw (.int .i64 e.model.head.shift), s12, s13] (eModel e.model) := oM.frame fun q hq => by
    have hq1 := blM.2 q hq
    exact (show g9.get q = _ from l9.2 q zau).trans zfz
  replace o14 : OT g9 b14 s14 (.l 1 (ints e.store.refs)) := o14.frame fun q hq => by
    have hq1 := bl14.2 q hq
    exact (show g9.get q = _ from l9.2 q zau).trans zfz
  replace o15 : OT g9 b15 s15 (.l 1 (rCellSS e.store.pages)) := o15.frame fun q hq => by
    have hq1 := bl15.2 q hq
    exact (show g9.get q = _ from l9.2 q zau).trans zfz
  replace o16 : OT g9 b16 s16 (.l 10 (rRequestS e.requests)) := o16.frame fun q hq => by
    have hq1 := bl16.2 q hq
    exact (show g9.get q = _ from l9.2 q zau).trans zfz
  replace oA : OT g9 bA sA (.l 1 (ints p)) := oA.frame fun q hq => by
    have hq1 := blA.2 q hq
    exact (show g9.get q = _ from l9.2 q zau).trans zfz
  replace oC : OT g9 bC sC (.l 1 (strs c.stops)) := oC.frame fun q hq => by
    have hq1 := blC.2 q hq
    exact (show g9.get q = _ from l9.2 q zau).trans zfz
  try (rw [kq]; refine ⟨by simp -dsimp -implicitDefEqProofs only [go_sem, rq1, hoo, rL3], ?_⟩)
  repeat (first | rw [ko] | rw [kr] | simp -dsimp -implicitDefEqProofs only [go_sem, rq1, hoo])
  have oL := outRequest (c := newReq p c) oA oC (OT.nil (g := g9) (z := 1))
  have bX := blA.append (blC.append (Bl.nil (N := hn gC .mk) (M := hn gC .mk)) (by omega) (by omega)) (by omega) (by omega)
  obtain ⟨b0, gr, sub0, own0⟩ := o16.gr (bl16.wide (Nat.le_refl _) (by omega))
  have hvl := gr.lt
  rw [rRequestS_len] at gr
  refine append_gr2 (P := Tryz.prog) (D := fun _ => none) (N := hn g .mk + 1 + 1 + 1) (us := eRequest (newReq p c)) Go.Ai.ty_el39 Go.Ai.ty_zr102 rfl Go.Ai.ty_cl39 gr hs9 oL rfl (by omega) (fun q hb => by have := bX.2 q hb; omega) bX.1 (fun q hb hb' => by have := bl16.2 q (sub0 q hb); have := bX.2 q hb'; omega) (fun q e hb' => by have := bl16.2 q (own0 q e); have := bX.2 q hb'; omega) (by have : Go.Ai.most = 1099511627776 := rfl; have := hszr; omega) ?_
  intro v' g10 gr10 n10 le10 fr10 new10
  have hv' := Gr.cell gr10
  have rN0 := (fr10 (hn g .mk) (by omega) (fun e => by have := bl16.2 _ (own0 _ e); omega)).trans rL0
  have rN1 := (fr10 (hn g .mk + 1) (by omega) (fun e => by have := bl16.2 _ (own0 _ e); omega)).trans rL1
  have rN2 := (fr10 (hn g .mk + 1 + 1) (by omega) (fun e => by have := bl16.2 _ (own0 _ e); omega)).trans rL2
  have rN3 := (fr10 (hn g1 .mk) (by omega) (fun e => by have := bl16.2 _ (own0 _ e); omega)).trans rL3
  obtain ⟨b6, o6, bl6, sub6⟩ := Gr.treeX (es := rRequestS (e.requests ++ [newReq p c])) (by rw [show rRequestS (e.requests ++ [newReq p c]) = rRequestS e.requests ++ [eRequest (newReq p c)] by simp [rRequestS], List.flatten_append]; exact gr10) (by rw [rRequestS_len, List.length_append]; rfl) (fun e he => by obtain ⟨x, _, rfl⟩ := List.mem_map.1 he; rfl)
  try (rw [kq]; refine ⟨zsm, ?_⟩)
  repeat (first | rw [ko] | rw [kr] | simp -dsimp -implicitDefEqProofs only [go_sem, rq1, hoo, rN3, hv'])
  refine dq_intro [(0, []), (1, []), (2, []), (3, []), (4, [2]), (5, []), (6, [])] (by kernel_rfl) ?_
  repeat (first | rw [ko] | rw [kr] | simp -dsimp -implicitDefEqProofs only [go_sem, rq1, rq2, hoo, nq2, nq6, nq10, rN0, rN2, c3, c4, c5, c6, c8, c9, c12, c13, c14, c15, hv'])
  have dj : ∀ x ∈ b6, x ∈ b16 ∨ hn g1 .mk < x := fun x hx => by
    rcases sub6 x hx with h | h
    · rcases List.mem_append.1 h with h | h
      · exact .inl (sub0 x h)
      · have := bX.2 x h; exact .inr (by omega)
    · have := new10 x h; exact .inr (by omega)
  have L9 : g1.le g9 := H2.le.trans zale (lA.trans (lC.trans l9))
  refine ⟨by repeat (first | exact L1 | refine le_set ?_ (by omega) | exact le10 g (by omega) (L1.trans L9)), bM ++ (b14 ++ (b15 ++ b6)), ⟨_, rfl, outEngine3 (c := ⟨e.model, e.store, e.requests ++ [newReq p c]⟩) (oM.frame fun q hq => by
      have h1 := blM.2 q hq
      have h2 := dM q hq
      simp only [H2.set]
      repeat rw [if_neg (by first | omega | (unfold hn at *; omega))]
      exact fr10 q (by omega) (fun e => h2 (own0 _ e))) (o14.frame fun q hq => by
      have h1 := bl14.2 q hq
      have h2 := d14 q hq
      simp only [H2.set]
      repeat rw [if_neg (by first | omega | (unfold hn at *; omega))]
      exact fr10 q (by omega) (fun e => h2 (own0 _ e))) (o15.frame fun q hq => by
      have h1 := bl15.2 q hq
      have h2 := d15 q hq
      simp only [H2.set]
      repeat rw [if_neg (by first | omega | (unfold hn at *; omega))]
      exact fr10 q (by omega) (fun e => h2 (own0 _ e))) (o6.frame fun q hq => by
      have h1 := bl6.2 q hq
      have h2 := dj q hq
      have h3 : q ≠ hn g1 .mk := by
        rcases h2 with h | h
        · have := bl16.2 q h; omega
        · omega
      simp only [H2.set]
      repeat rw [if_neg (by first | omega | (unfold hn at *; omega))])⟩, ?_⟩
  simp only [hn_set]
  have hB := Bl.repl (A := bM ++ (b14 ++ b15)) (B := b16) (B' := b6) (by simpa only [List.append_assoc] using bl1) bl6 (fun x hx => (dj x hx).imp_right (fun h => by omega)) (by omega)
  simp only [List.append_assoc] at hB
  exact hB.wide (by omega) (Nat.le_refl _)
end Go.Bi
end
section
set_option maxRecDepth 20000

end
section
set_option maxRecDepth 20000
namespace Go.Bi
open Go.Proofs
open Go.Ai (wrap_i64 wrap_u8 Heap)
variable {W0 : World} {P : Program}
theorem heldEngine_tree {g : H2} {c : LEngine} {bs : List Nat} {ys : List X} {k k' : Int} (o : OTs g bs ys (eEngine c)) (hd : ∀ F g, PW Tryz.prog W0 29 [.st (xEngine F c), .raw (.int .i64 k)] g (fun y => y = .raw (.int .i64 k'))) : PW Tryz.prog W0 29 [.st ys, .raw (.int .i64 k)] g (fun y => y = .raw (.int .i64 k')) := by
 obtain ⟨F, hF⟩ := o.lent
 exact PW.lend (.cons hF (.cons lent_raw .nil)) (hd F _) (fun y h => by subst h; exact .raw)
end Go.Bi
end
section
set_option maxRecDepth 20000
namespace Go.Bi
open Go.Proofs
open Go.Ai (wrap_i64 wrap_u8 Heap)
variable {W0 : World} {P : Program}
theorem implSubmit_tree {e : LEngine} {p : List Int} {c : LConfig} {g : H2} {bs bs' bs2 : List Nat} {ys ys2 : List X} {y : X} (o : OTs g bs ys (eEngine e)) (o' : OT g bs' y (.l 1 (ints p))) (o2 : OTs g bs2 ys2 (eConfig c)) (hs : szEngine e ≤ 1048576) (hrg : rngEngine e) (hp : p.length ≤ 1048576) (hc : szConfig c ≤ 1048576) :
  WC2 Tryz.prog W0 40 [.st ys, y, .st ys2] g (fun x g' => g.le g' ∧ ∃ zs b, x = .tp [.st zs, .raw (.int .i64 (subN e p c)), .raw (.int .i64 (subK e p c))] ∧ OTs g' b zs (eEngine (subE e p c)) ∧ Bl (hn g .mk) (hn g' .mk) b) := by
 obtain ⟨F, hF⟩ := o.lent
 obtain ⟨f, hf⟩ := o'.lent
 obtain ⟨F', hF'⟩ := o2.lent
 refine (lend_tup3 (.cons hF (.cons hf (.cons hF' .nil))) (implSubmit_ok (F := F) (F' := F') (f := f) hs hp hc)).mono ?_
 rintro x g' ⟨h1, b, ⟨zs, rfl, o'⟩, bl⟩
 exact ⟨h1, zs, b, rfl, o', bl⟩
theorem specSubmit_tree {e : LEngine} {p : List Int} {c : LConfig} {g : H2} {bs bs' bs2 : List Nat} {ys ys2 : List X} {y : X} (o : OTs g bs ys (eEngine e)) (o' : OT g bs' y (.l 1 (ints p))) (o2 : OTs g bs2 ys2 (eConfig c)) (hs : szEngine e ≤ 1048576) (hrg : rngEngine e) (hp : p.length ≤ 1048576) (hc : szConfig c ≤ 1048576) :
  WC2 Tryz.prog W0 37 [.st ys, y, .st ys2] g (fun x g' => g.le g' ∧ ∃ zs b, x = .tp [.st zs, .raw (.int .i64 (subN e p c)), .raw (.int .i64 (subK e p c))] ∧ OTs g' b zs (eEngine (subE e p c)) ∧ Bl (hn g .mk) (hn g' .mk) b) := by
 obtain ⟨F, hF⟩ := o.lent
 obtain ⟨f, hf⟩ := o'.lent
 obtain ⟨F', hF'⟩ := o2.lent
 refine (lend_tup3 (.cons hF (.cons hf (.cons hF' .nil))) (specSubmit_ok (F := F) (F' := F') (f := f) hs hrg hp hc)).mono ?_
 rintro x g' ⟨h1, b, ⟨zs, rfl, o'⟩, bl⟩
 exact ⟨h1, zs, b, rfl, o', bl⟩
theorem subE_fit {e : LEngine} {p : List Int} {c : LConfig} (h : fitEngine e) (hs : e.requests.length ≤ 1048576) (hp : p.length ≤ 1048576) (hc : fitConfig c) : fitEngine (subE e p c) := by
 unfold subE admE
 split
 ·split
  ·refine ⟨h.1, h.2.1, ?_, ?_⟩
   ·rw [List.length_append, List.length_singleton]; omega
   ·intro x hx
    rcases List.mem_append.1 hx with hx | hx
    ·exact h.2.2.2 x hx
    ·rw [List.mem_singleton] at hx
     subst hx
     exact ⟨by show p.length ≤ _; omega, hc, by show ([] : List Int).length ≤ _; simp⟩
  ·exact h
 ·exact h
theorem subE_sz {e : LEngine} {p : List Int} {c : LConfig} (hs : szEngine e ≤ 1048576) (hp : p.length ≤ 1048576) (hc : szConfig c ≤ 1048576) : szEngine (subE e p c) ≤ 4194304 := by
 unfold subE admE
 split
 ·split
  ·have h1 : szEngine e = szModel e.model + szStore e.store + (e.requests.length + sumN szRequest e.requests) := rfl
   have h2 : szEngine ⟨e.model, e.store, e.requests ++ [newReq p c]⟩ = szModel e.model + szStore e.store + ((e.requests ++ [newReq p c]).length + sumN szRequest (e.requests ++ [newReq p c])) := rfl
   rw [h2, List.length_append, sumN_append]
   have h3 : sumN szRequest [newReq p c] = p.length + szConfig c := by
    show szRequest (newReq p c) + 0 = _
    show p.length + szConfig c + 0 + 0 = _
    omega
   rw [h3, List.length_singleton]
   omega
  ·omega
 ·omega
theorem drz_midG {P : Program} {W0 : World} {e : E2} {g : H2} {Q : Q2} {l : List Oper} (ks : List Nat) (J : H2 → E2 → H2 → Prop) (h : drz P W0 l e g (midQ (fun e'' g' => samez ks e e'' ∧ J g e'' g') Q) .mk)
    (hj : ∀ e' g', samez ks e e' → J g e' g' → qz Q .normal e' g' .mk) : drz P W0 l e g Q .mk := drz_mid ks (J g) h hj
end Go.Bi
end
section
set_option maxRecDepth 20000
set_option maxHeartbeats 4000000
namespace Go.Bi
open Go.Proofs
open Go.Ai (wrap_i64 wrap_u8 Heap)
variable {W0 : World} {P : Program}
theorem markConfig_ok {N : Nat} {c : LConfig} {h : H2} {k0 : Int} {b3 : List Nat} {s3 : X} (o3 : OT h b3 s3 (.l 1 (strs c.stops))) (bl : Bl N (hn h .mk) b3) (hk : 0 ≤ k0 ∧ k0 + cntConfig c ≤ 4611686018427387904) : WC2 Tryz.prog W0 44 [.st [.raw (.int .i64 c.top), .raw (.int .i64 c.seed), .raw (.int .i64 c.new), s3], .raw (.int .i64 k0)] h (fun r h' => ∃ (k1 : Int) (z3 : List ByteArray), r = .raw (.int .i64 k1) ∧ k0 ≤ k1 ∧ k1 ≤ k0 + cntConfig c ∧ (OT h' b3 s3 (.l 1 (strs z3))) ∧ hn h .mk ≤ hn h' .mk ∧ ∀ b, b < hn h .mk → b ∉ b3 → h'.get b = h.get b) := by
 unfold cntConfig at *
 have bl0 := bl
 have lj3 := bl0
 refine begins [[0, 1], [1, 2], [1]] Tryz.func44 rfl (rs := [.tmp 4]) rfl rfl ?_
 intro wf
 repeat (first | rw [ko] | rw [kr] | simp -dsimp -implicitDefEqProofs only [go_sem, rq1])
 replace o3 := fun k => OT.keep o3 (H2.le_push1 h k) lj3
 refine wz_intro (markStringS_tree (o3 _) (bl0.wide (Nat.le_refl _) (by simp only [hn_push]; omega)) ⟨by omega, by omega⟩) ?_
 rintro _ g3 ⟨k1, z3, rfl, lo3, hi3, d3, hd3, n3, fr3⟩
 simp only [hn_push] at n3
 have a3 : hg g3 (hn h .mk) .mk = _ := fr3 (hn h .mk) (by simp only [hn_push]; omega) (fun hb => by have := (bl0.2 _ hb).2; omega)
 replace a3 : hg g3 (hn h .mk) .mk = hg (h.push _) (hn h .mk) .mk := a3
 simp -dsimp -implicitDefEqProofs only [go_sem, hoo] at a3
 repeat (first | rw [ko] | rw [kr] | simp -dsimp -implicitDefEqProofs only [go_sem])
 refine ⟨k1, z3, rfl, by omega, by omega, d3, by omega, fun b hb hnb => ?_⟩
 rw [fr3 b (by simp only [hn_push]; omega) hnb]
 simp only [H2.push]; rw [if_neg (by unfold hn at hb; omega)]
theorem shEngine {g : H2} {bs : List Nat} {ys : List X} {c : LEngine} (o : OTs g bs ys (eEngine c)) : ∃ s3 s4 s5 s6 s8 s9 s12 s13 s14 s15 s16 , ys = [.raw (.int .i64 c.model.dim), .raw (.int .i64 c.model.heads), .raw (.int .i64 c.model.context), s3, s4, s5, s6, .raw (.int .i64 c.model.head.width), s8, s9, .raw (.int .i64 c.model.head.mul), .raw (.int .i64 c.model.head.shift), s12, s13, s14, s15, s16] ∧ (cellsX s3 = some [s3] ∧ okX s3 = true ∧ isTpX s3 = false) ∧ (cellsX s4 = some [s4] ∧ okX s4 = true ∧ isTpX s4 = false) ∧ (cellsX s5 = some [s5] ∧ okX s5 = true ∧ isTpX s5 = false) ∧ (cellsX s6 = some [s6] ∧ okX s6 = true ∧ isTpX s6 = false) ∧ (cellsX s8 = some [s8] ∧ okX s8 = true ∧ isTpX s8 = false) ∧ (cellsX s9 = some [s9] ∧ okX s9 = true ∧ isTpX s9 = false) ∧ (cellsX s12 = some [s12] ∧ okX s12 = true ∧ isTpX s12 = false) ∧ (cellsX s13 = some [s13] ∧ okX s13 = true ∧ isTpX s13 = false) ∧ (cellsX s14 = some [s14] ∧ okX s14 = true ∧ isTpX s14 = false) ∧ (cellsX s15 = some [s15] ∧ okX s15 = true ∧ isTpX s15 = false) ∧ (cellsX s16 = some [s16] ∧ okX s16 = true ∧ isTpX s16 = false) := by
 obtain ⟨b3, s3, b4, s4, b5, s5, b6, s6, b8, s8, b9, s9, b12, s12, b13, s13, b14, s14, b15, s15, b16, s16, rfl, rfl, o3, o4, o5, o6, o8, o9, o12, o13, o14, o15, o16⟩ := invEngine o
 exact ⟨s3, s4, s5, s6, s8, s9, s12, s13, s14, s15, s16, rfl, o3.cell, o4.cell, o5.cell, o6.cell, o8.cell, o9.cell, o12.cell, o13.cell, o14.cell, o15.cell, o16.cell⟩
theorem markEngine_treeJ {N : Nat} {c : LEngine} {h : H2} {k0 : Int} {bs : List Nat} {ys : List X} (o : OTs h bs ys (eEngine c)) (bl : Bl N (hn h .mk) bs) (hk : 0 ≤ k0 ∧ k0 + 64 * szEngine c ≤ 4611686018427387904) : WC2 Tryz.prog W0 28 [.st ys, .raw (.int .i64 k0)] h (fun r h' => ∃ (k1 : Int) (c' : LEngine), r = .raw (.int .i64 k1) ∧ k0 ≤ k1 ∧ k1 ≤ k0 + 64 * szEngine c ∧ OTs h' bs ys (eEngine c') ∧ (∀ F g, PW Tryz.prog W0 29 [.st (xEngine F c'), .raw (.int .i64 k0)] g (fun y => y = .raw (.int .i64 k1))) ∧ hn h .mk ≤ hn h' .mk ∧ ∀ b, b < hn h .mk → b ∉ bs → h'.get b = h.get b) := by
 obtain ⟨b3, s3, b4, s4, b5, s5, b6, s6, b8, s8, b9, s9, b12, s12, b13, s13, b14, s14, b15, s15, b16, s16, rfl, rfl, o3, o4, o5, o6, o8, o9, o12, o13, o14, o15, o16⟩ := invEngine o
 refine (markEngine_ok (c := c) o3 o4 o5 o6 o8 o9 o12 o13 o14 o15 o16 bl hk).mono ?_
 rintro r h' ⟨k1, z3, z4, z5, z6, z8, z9, z12, z13, z14, z15, z16, h1, h2, h3, ⟨p3, p4, p5, p6, p8, p9, p12, p13, p14, p15, p16⟩, h4, h5, h6⟩
 exact ⟨k1, { c with model := { c.model with merges := z3, embed := z4, layers := z5, gainEnd := z6, head := { c.model.head with rows := z8, scales := z9 }, turns := { c.model.turns with cos := z12, sin := z13 } }, store := { c.store with refs := z14, pages := z15 }, requests := z16 }, h1, h2, h3, outEngine (c := { c with model := { c.model with merges := z3, embed := z4, layers := z5, gainEnd := z6, head := { c.model.head with rows := z8, scales := z9 }, turns := { c.model.turns with cos := z12, sin := z13 } }, store := { c.store with refs := z14, pages := z15 }, requests := z16 }) p3 p4 p5 p6 p8 p9 p12 p13 p14 p15 p16, h4, h5, h6⟩
theorem shConfig {g : H2} {bs : List Nat} {ys : List X} {c : LConfig} (o : OTs g bs ys (eConfig c)) : ∃ s3 , ys = [.raw (.int .i64 c.top), .raw (.int .i64 c.seed), .raw (.int .i64 c.new), s3] ∧ (cellsX s3 = some [s3] ∧ okX s3 = true ∧ isTpX s3 = false) := by
 obtain ⟨b3, s3, rfl, rfl, o3⟩ := invConfig o
 exact ⟨s3, rfl, o3.cell⟩
theorem markConfig_treeJ {N : Nat} {c : LConfig} {h : H2} {k0 : Int} {bs : List Nat} {ys : List X} (o : OTs h bs ys (eConfig c)) (bl : Bl N (hn h .mk) bs) (hk : 0 ≤ k0 ∧ k0 + cntConfig c ≤ 4611686018427387904) : WC2 Tryz.prog W0 44 [.st ys, .raw (.int .i64 k0)] h (fun r h' => ∃ (k1 : Int) (c' : LConfig), r = .raw (.int .i64 k1) ∧ k0 ≤ k1 ∧ k1 ≤ k0 + cntConfig c ∧ OTs h' bs ys (eConfig c') ∧ hn h .mk ≤ hn h' .mk ∧ ∀ b, b < hn h .mk → b ∉ bs → h'.get b = h.get b) := by
 obtain ⟨b3, s3, rfl, rfl, o3⟩ := invConfig o
 refine (markConfig_ok (c := c) o3 bl hk).mono ?_
 rintro r h' ⟨k1, z3, h1, h2, h3, p3, h5, h6⟩
 exact ⟨k1, { c with stops := z3 }, h1, h2, h3, outConfig (c := { c with stops := z3 }) p3, h5, h6⟩
end Go.Bi
end
