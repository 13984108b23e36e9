/- Own lemmas that the theorem of this claim needs: the abstract machine and walks of functions. -/
import Derived.Test.YtjofbadmkigkjaaGreatReLawAM
set_option linter.unusedSimpArgs false
set_option linter.unusedVariables false
open Nat renaming reduceBEq → rq1, reduceAdd → rq2, reduceLeDiff → rq3, reduceMul → rq4
open Int renaming reduceLE → rq5, reduceLT → rq6, reduceBEq → rq7
section
set_option maxRecDepth 20000
namespace Go.Bi
open Go.Proofs
open Go.Ai (wrap_i64 wrap_u8)
variable {W0 : World} {P : Program}
set_option maxHeartbeats 8000000
theorem drz_mid {P : Program} {W0 : World} {e : E2} {g : H2} {Q : Q2} {l : List Oper} (ks : List Nat) (J : E2 → H2 → Prop) (h : drz P W0 l e g (midQ (fun e'' g => samez ks e e'' ∧ J e'' g) Q) .mk)
  (hj : ∀ e' g, samez ks e e' → J e' g → qz Q .normal e' g .mk) : drz P W0 l e g Q .mk := by
 obtain ⟨p, h1, h2⟩ := h
 refine ⟨p, h1, runX_mono (fun x e' g hx => ?_) p e g h2⟩
 cases x with
 | normal => exact hj e' g hx.1 hx.2
 | ret => exact hx
 | exit i => exact hx
def MidE (F : Nat → Adr) (c : LEngine) (g : H2) (e : E2) (h : H2) : Prop := ∃ (b : Nat) (s3 s4 s5 s6 s8 s9 s12 s13 s14 s15 : X) (bM bS : List Nat), look e 3 .mk = .raw (.pointer (some ⟨b, 0, none⟩)) ∧ g.le h ∧ hn g .mk + 2 ≤ b ∧ b < hn h .mk ∧
 hg h (hn g .mk) .mk = some ⟨17, [.raw (.int .i64 c.model.dim), .raw (.int .i64 c.model.heads), .raw (.int .i64 c.model.context), .sl (F 3) 2 (rMergeS c.model.merges), .sl (F 4) 1 (rIntSS c.model.embed), .sl (F 5) 32 (rLayerS c.model.layers), .sl (F 6) 1 (ints c.model.gainEnd), .raw (.int .i64 c.model.head.width), .sl (F 8) 1 (rIntSS c.model.head.rows), .sl (F 9) 1 (rIntSS c.model.head.scales), .raw (.int .i64 c.model.head.mul), .raw (.int .i64 c.model.head.shift), .sl (F 12) 1 (rIntSS c.model.turns.cos), .sl (F 13) 1 (rIntSS c.model.turns.sin), .sl (F 14) 1 (ints c.store.refs), .sl (F 15) 1 (rCellSS c.store.pages), .sl (F 16) 10 (rRequestS c.requests)]⟩ ∧ hg h (hn g .mk + 1) .mk = some ⟨17, [.raw (.int .i64 0), .raw (.int .i64 0), .raw (.int .i64 0), .raw (.slice none 0 0), .raw (.slice none 0 0), .raw (.slice none 0 0), .raw (.slice none 0 0), .raw (.int .i64 0), .raw (.slice none 0 0), .raw (.slice none 0 0), .raw (.int .i64 0), .raw (.int .i64 0), .raw (.slice none 0 0), .raw (.slice none 0 0), .raw (.slice none 0 0), .raw (.slice none 0 0), .raw (.slice none 0 0)]⟩ ∧ hg h b .mk = some ⟨17, [.raw (.int .i64 c.model.dim), .raw (.int .i64 c.model.heads), .raw (.int .i64 c.model.context), s3, s4, s5, s6, .raw (.int .i64 c.model.head.width), s8, s9, .raw (.int .i64 c.model.head.mul), .raw (.int .i64 c.model.head.shift), s12, s13, s14, s15, .raw (.slice none 0 0)]⟩ ∧
 OTs h bM [.raw (.int .i64 c.model.dim), .raw (.int .i64 c.model.heads), .raw (.int .i64 c.model.context), s3, s4, s5, s6, .raw (.int .i64 c.model.head.width), s8, s9, .raw (.int .i64 c.model.head.mul), .raw (.int .i64 c.model.head.shift), s12, s13] (eModel c.model) ∧ OTs h bS [s14, s15] (eStore c.store) ∧ Bl (hn g .mk + 2) (hn h .mk) (bM ++ bS) ∧ b ∉ bM ++ bS
theorem copyEngine_new {F : Nat → Adr} {c : LEngine} {g : H2} (hs : szEngine c ≤ 1048576) : NewS Tryz.prog W0 102 [.st (xEngine F c)] g (eEngine c) := by
 have hsz : szEngine c = szModel c.model + szStore c.store + (c.requests.length + sumN szRequest c.requests) := rfl
 refine begins [[0], [1, 2], [1, 2, 3], [1, 2, 3, 4], [1, 2, 3, 4], [1, 2, 3, 4], [1, 2, 3, 4, 5], [1, 2, 3, 4, 5], [1, 2, 3, 4, 5], [1, 2, 3, 4, 5], [2, 3]] Tryz.func102 rfl (rs := [.cell 2 41]) rfl rfl ?_
 intro wf
 have ne1 : (hn g .mk == hn g .mk + 1) = false := by simp
 have ne2 : (hn g .mk + 1 == hn g .mk) = false := by simp
 repeat (first | rw [ko] | rw [kr] | simp -dsimp -implicitDefEqProofs only [go_sem, hoo])
 refine drz_mid [1, 2] (MidE F c g) ?_ ?_
 rotate_left
 ·intro e h0 hks hmid
  obtain ⟨b, s3, s4, s5, s6, s8, s9, s12, s13, s14, s15, bM, bS, e3, hle, hb2, hbn, r1, r2, r3, oM, oS, bl, hnb⟩ := hmid
  simp -dsimp -implicitDefEqProofs only [go_sem] at hks
  have nx1 : ((hn g .mk) == b) = false := zne
  have nx2 : (b == (hn g .mk)) = false := zne
  have nx3 : ((hn g .mk + 1) == b) = false := zne
  have nx4 : (b == (hn g .mk + 1)) = false := zne
  obtain ⟨c3, c4, c5, c6, c8, c9, c12, c13⟩ := oM.cellM
  obtain ⟨c14, c15⟩ := oS.cellS
  repeat (first | rw [ko] | rw [kr] | simp -dsimp -implicitDefEqProofs only [go_sem, hks, e3])
  refine lz_keep [1, 2, 3] (fun m e2 h' => ∃ (i : Nat) (v : X) (bs : List Nat), look e2 4 .mk = .raw (.int .i64 (i : Nat)) ∧ m + i = c.requests.length ∧ hn h0 .mk ≤ hn h' .mk ∧ (∀ q, q < hn h0 .mk → q ≠ b → hg h' q .mk = hg h0 q .mk) ∧ hg h' b .mk = some ⟨17, [.raw (.int .i64 c.model.dim), .raw (.int .i64 c.model.heads), .raw (.int .i64 c.model.context), s3, s4, s5, s6, .raw (.int .i64 c.model.head.width), s8, s9, .raw (.int .i64 c.model.head.mul), .raw (.int .i64 c.model.head.shift), s12, s13, s14, s15, v]⟩ ∧ Gr (hn h0 .mk) h' v 10 i (((c.requests.take i).map eRequest).flatten) bs) c.requests.length ?_ ?_
  ·exact ⟨0, .raw (.slice none 0 0), [], zsm, by omega, Nat.le_refl _, fun _ _ _ => rfl, by simp -dsimp -implicitDefEqProofs only [go_sem, r3] <;> rfl, Gr.nil⟩
  rintro m e2 h' hks2 ⟨i, v, bs, ei, hm, hn2, fr, q3r, gr⟩
  simp -dsimp -implicitDefEqProofs only [go_sem] at hks2
  have q1r := (fr (hn g .mk) (by omega) (by omega)).trans r1
  have q2r := (fr (hn g .mk + 1) (by omega) (by omega)).trans r2
  have hv := Gr.cell gr
  by_cases q1 : (i : Int) < (c.requests.length : Int)
  ·have q2 : i < c.requests.length := by omega
   have w1 := wrap_succ q2 (by omega)
   have hsl : szRequest (c.requests.getD i default) ≤ sumN szRequest c.requests := sumN_mem (f := szRequest) (getD_mem q2)
   have hsR : szRequest (c.requests.getD i default) = (c.requests.getD i default).tokens.length + szConfig (c.requests.getD i default).config + (c.requests.getD i default).table.pages.length := rfl
   have hsT : szTable (c.requests.getD i default).table = (c.requests.getD i default).table.pages.length := rfl
   have ny0 : ((hn g .mk) == (hn h' .mk)) = false := zne
   have ny1 : ((hn h' .mk) == (hn g .mk)) = false := zne
   have ny2 : ((hn g .mk) == (hn h' .mk + 1)) = false := zne
   have ny3 : ((b) == (hn h' .mk)) = false := zne
   have ny4 : ((hn h' .mk) == (b)) = false := zne
   have ny5 : ((b) == (hn h' .mk + 1)) = false := zne
   have ny6 : ((hn h' .mk) == (hn h' .mk + 1)) = false := zne
   repeat (first | rw [ko] | rw [kr] | simp -dsimp -implicitDefEqProofs only [go_sem, rq1, rq2, rq3, hks2, ei, q1, q2, hoo, ny6, q1r])
   refine app_ints (by omega) ?_
   intro sA gA bA lA oA blA
   have cA := OT.cell oA
   have nA := lA.1
   try simp only [hn_push] at nA blA
   have rrA0 := lA.2 (hn g .mk) zau
   have rrA1 := lA.2 (b) zau
   have rrA2 := lA.2 (hn h' .mk) zau
   simp -dsimp -implicitDefEqProofs only [go_sem, hoo, ny0, ny3, q1r, q3r] at rrA0 rrA1 rrA2
   have LA : h'.le gA := H2.le.trans zale lA
   have ny7 : ((hn g .mk) == (hn gA .mk)) = false := zne
   have ny8 : ((b) == (hn gA .mk)) = false := zne
   have ny9 : ((hn h' .mk) == (hn gA .mk)) = false := zne
   repeat (first | rw [ko] | rw [kr] | simp -dsimp -implicitDefEqProofs only [go_sem, rq1, hoo, rrA2, cA])
   refine wz_intro (copyConfig_new (F := fun j => under (under (F 16) i) (j + 2)) (c := (c.requests.getD i default).config) (by omega)) ?_
   rintro _ gC ⟨lC, ysC, bC, rfl, oC', blC⟩
   obtain ⟨_, sC, rfl, rfl, oC⟩ := invConfig oC'
   have cC := OT.cell oC
   have nC := lC.1
   try simp only [hn_set] at nC blC
   have rrC0 := lC.2 (hn g .mk) zau
   have rrC1 := lC.2 (b) zau
   have rrC2 := lC.2 (hn h' .mk) zau
   simp -dsimp -implicitDefEqProofs only [go_sem, hoo, ny0, ny3, rrA0, rrA1] at rrC0 rrC1 rrC2
   replace oA : OT gC bA sA (.l 1 (ints (c.requests.getD i default).tokens)) := oA.frame fun q hq => by
    have hq1 := blA.2 q hq
    exact (show gC.get q = _ from lC.2 q zau).trans zfz
   have LC : h'.le gC := H2.le.trans zale lC
   repeat (first | rw [ko] | rw [kr] | simp -dsimp -implicitDefEqProofs only [go_sem, rq1, rq2, hoo, rrC2, cC])
   refine wz_intro (copyTable_new (F := fun j => under (under (F 16) i) (j + 7)) (c := (c.requests.getD i default).table) (by omega)) ?_
   rintro _ gT ⟨lT, ysT, bT, rfl, oT', blT⟩
   obtain ⟨_, sT, rfl, rfl, oT⟩ := invTable oT'
   have cT := OT.cell oT
   have nT := lT.1
   try simp only [hn_set] at nT blT
   have rrT0 := lT.2 (hn g .mk) zau
   have rrT1 := lT.2 (b) zau
   have rrT2 := lT.2 (hn h' .mk) zau
   simp -dsimp -implicitDefEqProofs only [go_sem, hoo, ny0, ny3, rrC0, rrC1] at rrT0 rrT1 rrT2
   replace oA : OT gT bA sA (.l 1 (ints (c.requests.getD i default).tokens)) := oA.frame fun q hq => by
    have hq1 := blA.2 q hq
    exact (show gT.get q = _ from lT.2 q zau).trans zfz
   replace oC : OT gT bC sC (.l 1 (strs (c.requests.getD i default).config.stops)) := oC.frame fun q hq => by
    have hq1 := blC.2 q hq
    exact (show gT.get q = _ from lT.2 q zau).trans zfz
   have LT : h'.le gT := H2.le.trans zale lT
   repeat (first | rw [ko] | rw [kr] | simp -dsimp -implicitDefEqProofs only [go_sem, rq1, rq2, rq3, rq4, hoo, ny3, rrT1, rrT2, cT])
   refine lit_intro rfl ?_
   intro w9 g9 hs9 l9
   have n9 := l9.1
   try simp only [hn_set] at n9
   have r9_0 := l9.2 (hn g .mk) zau
   have r9_1 := l9.2 (b) zau
   have r9_2 := l9.2 (hn h' .mk) zau
   simp -dsimp -implicitDefEqProofs only [go_sem, hoo, ny0, ny3, rrT0, rrT1] at r9_0 r9_1 r9_2
   have L9 : h'.le g9 := H2.le.trans zale l9
   repeat (first | rw [ko] | rw [kr] | simp -dsimp -implicitDefEqProofs only [go_sem, hoo])
   replace oA : OT g9 bA sA (.l 1 (ints (c.requests.getD i default).tokens)) := oA.frame fun q hq => by
    have hq1 := blA.2 q hq
    exact (show g9.get q = _ from l9.2 q zau).trans zfz
   replace oC : OT g9 bC sC (.l 1 (strs (c.requests.getD i default).config.stops)) := oC.frame fun q hq => by
    have hq1 := blC.2 q hq
    exact (show g9.get q = _ from l9.2 q zau).trans zfz
   replace oT : OT g9 bT sT (.l 1 (ints (c.requests.getD i default).table.pages)) := oT.frame fun q hq => by
    have hq1 := blT.2 q hq
    exact (show g9.get q = _ from l9.2 q zau).trans zfz
   have oL := outRequest (c := (c.requests.getD i default)) oA oC oT
   have bX := blA.append (blC.append blT (by omega) (by omega)) (by omega) (by omega)
   have hvl := gr.lt
   refine append_gr (P := Tryz.prog) (D := fun _ => none) (N := hn h0 .mk) (us := eRequest (c.requests.getD i default)) Go.Ai.ty_el39 Go.Ai.ty_zr102 rfl Go.Ai.ty_cl39 (gr.keep L9) hs9 oL rfl (by omega) (fun q hb => by have := bX.2 q hb; omega) bX.1 (fun q hb hb' => by have := gr.bl q hb; have := bX.2 q hb'; omega) (fun q e hb' => by have := hvl q e; have := bX.2 q hb'; omega) (by have : Go.Ai.most = 1099511627776 := rfl; omega) ?_
   intro v' g10 gr10 n10 le10 fr10
   have rb := (fr10 b (by omega) (fun e => by have := hvl _ e; omega)).trans r9_1
   have hv' := Gr.cell gr10
   repeat (first | rw [ko] | rw [kr] | simp -dsimp -implicitDefEqProofs only [go_sem, rq1, hoo, w1, rb, hv'])
   refine nx_keep (m - 1) (by omega) zsm ⟨i + 1, v', _, zsm, by omega, by simp only [hn_set]; omega, fun q h1 h2 => ?_, by simp -dsimp -implicitDefEqProofs only [go_sem, hoo] <;> rfl, (flat_next (E := eRequest) q2).symm ▸ Gr.setB gr10 (by omega)⟩
   rw [hg_set, show (q == b) = false by simp [h2]]
   exact ((fr10 q (by omega) (fun e => by have := hvl _ e; omega)).trans (L9.2 q (by omega))).trans (fr q h1 h2)
  have hi : i = c.requests.length := by omega
  rw [hi, List.take_length] at gr
  obtain ⟨bR, oR, blR⟩ := Gr.tree (es := rRequestS c.requests) gr (by rw [rRequestS_len]) (fun e he => by obtain ⟨x, _, rfl⟩ := List.mem_map.1 he; rfl)
  repeat (first | rw [ko] | rw [kr] | simp -dsimp -implicitDefEqProofs only [go_sem, rq1, rq2, hks2, ei, q1, q1r, q2r, q3r, hoo, hv, c3, c4, c5, c6, c8, c9, c12, c13, c14, c15])
  have hle2 : g.le h' := ⟨by have := hle.1; omega, fun q hq => (fr q (by have := hle.1; omega) (by omega)).trans (hle.2 q hq)⟩
  refine ⟨le_set hle2 (by omega), _, bM ++ (bS ++ bR), rfl, outEngine2 (c := c) ((oM.frame (g' := h') fun q hq => fr q (by have := bl.split.1.2 q hq; omega) (fun e => hnb (by rw [← e]; simp [hq]))).setN bl.split.1 (by omega)) ((oS.frame (g' := h') fun q hq => fr q (by have := bl.split.2.1.2 q hq; omega) (fun e => hnb (by rw [← e]; simp [hq]))).setN bl.split.2.1 (by omega)) (oR.setN blR (by omega)), ?_⟩
  simp only [hn_set]
  have hA := bl.append blR (by omega) (by omega)
  rw [List.append_assoc] at hA
  exact hA.wide (by omega) (Nat.le_refl _)
 refine dt_intro (.op 0 [] (.op 1 [] (.op 3 [] (.op 4 [] (.alt (.op 2 [4] (.alt (.op 5 [] (.op 6 [] (.op 7 [1, 4] (.op 8 [] .nil)))) (.op 7 [1, 4] (.op 5 [] (.op 6 [] (.op 8 [] .nil)))))) (.op 7 [1, 4] (.op 2 [4] (.op 5 [] (.op 6 [] (.op 8 [] .nil)))))))))) (by kernel_rfl) ?_
 repeat (first | rw [ko] | rw [kr] | simp -dsimp -implicitDefEqProofs only [go_sem, rq1, hoo, ne1, hoo, hoo])
 rw [run_alt]
 refine ⟨?_, ?_⟩
 ·repeat (first | rw [ko] | rw [kr] | simp -dsimp -implicitDefEqProofs only [go_sem, hoo, hoo, hoo])
  refine wz_intro (copyModel_new (F := F) (c := c.model) (by omega)) ?_
  rintro _ gM ⟨lgM, ysgM, bM, rfl, oM, blM⟩
  have ngM := lgM.1
  try simp only [hn_push] at ngM blM
  have rgM0 := lgM.2 (hn g .mk) zau
  have rgM1 := lgM.2 (hn g .mk + 1) zau
  simp -dsimp -implicitDefEqProofs only [go_sem, hoo, ne1, hoo, hoo] at rgM0 rgM1
  obtain ⟨s3, s4, s5, s6, s8, s9, s12, s13, rfl, c3, c4, c5, c6, c8, c9, c12, c13⟩ := shModel oM
  have LgM : g.le gM := H2.le.trans zale lgM
  try (rw [kq]; refine ⟨by simp -dsimp -implicitDefEqProofs only [go_sem, hoo, rgM0], ?_⟩)
  repeat (first | rw [ko] | rw [kr] | simp -dsimp -implicitDefEqProofs only [go_sem, rq1, rq2, rq3, rq4, rq5, rq6, rq7, hoo, ne1, ne2, rgM0, rgM1, c3, c4, c5, c6, c8, c9, c12, c13])
  rw [run_alt]
  refine ⟨?_, ?_⟩
  ·repeat (first | rw [ko] | rw [kr] | simp -dsimp -implicitDefEqProofs only [go_sem, hoo])
   refine wz_intro (copyStore_new (F := fun j => F (j + 14)) (c := c.store) (by omega)) ?_
   rintro _ gS ⟨lgS, ysgS, bS, rfl, oS, blS⟩
   have ngS := lgS.1
   try simp only [hn_push, hn_up] at ngS blS
   have rgS0 := lgS.2 (hn g .mk) zau
   have rgS1 := lgS.2 (hn g .mk + 1) zau
   simp -dsimp -implicitDefEqProofs only [go_sem, rgM0, rgM1] at rgS0 rgS1
   obtain ⟨s14, s15, rfl, c14, c15⟩ := shStore oS
   replace oM := oM.frame (g' := gS) fun q hq => by
    have hq1 := blM.2 q hq
    refine (show gS.get q = _ from lgS.2 q zau).trans ?_
    first | rfl | (show hg (H2.push _ _) q .mk = hg _ q .mk; rw [hg_push, show (q == hn gM .mk) = false by simp; omega]; rfl)
   have LgS : g.le gS := H2.le.trans zale lgS
   try (rw [kq]; refine ⟨zsm, ?_⟩)
   repeat (first | rw [ko] | rw [kr] | simp -dsimp -implicitDefEqProofs only [go_sem, rq1, rq2, hoo, c3, c4, c5, c6, c8, c9, c12, c13, c14, c15])
   have nz2 : ((hn g .mk) == (hn gS .mk)) = false := zne
   have nz3 : ((hn gS .mk) == (hn g .mk)) = false := zne
   have nz4 : ((hn g .mk + 1) == (hn gS .mk)) = false := zne
   have nz5 : ((hn gS .mk) == (hn g .mk + 1)) = false := zne
   repeat (first | rw [ko] | rw [kr] | simp -dsimp -implicitDefEqProofs only [go_sem, nz2, rgS0])
   refine jz_keep zsm ⟨hn gS .mk, s3, s4, s5, s6, s8, s9, s12, s13, s14, s15, bM, bS, zsm, zale, by omega, zau, by simp -dsimp -implicitDefEqProofs only [go_sem, nz2, rgS0] <;> rfl, by simp -dsimp -implicitDefEqProofs only [go_sem, nz4, rgS1] <;> rfl, by simp -dsimp -implicitDefEqProofs only [go_sem, hoo, hoo] <;> rfl, (oM.frame fun q hq => by have h1 := blM.2 q hq; exact zfz), (oS.frame fun q hq => by have h1 := blS.2 q hq; exact zfz), ?_, ?_⟩
   ·exact (blM.append (blS.wide (N' := hn gM .mk) (by omega) (Nat.le_refl _)) (by omega) (by omega)).wide (by omega) zau
   ·intro hx
    rcases List.mem_append.1 hx with h | h
    ·have := blM.2 _ h; omega
    ·have := blS.2 _ h; omega
  ·have nz2 : ((hn g .mk) == (hn gM .mk)) = false := zne
   have nz3 : ((hn gM .mk) == (hn g .mk)) = false := zne
   have nz4 : ((hn g .mk + 1) == (hn gM .mk)) = false := zne
   have nz5 : ((hn gM .mk) == (hn g .mk + 1)) = false := zne
   repeat (first | rw [ko] | rw [kr] | simp -dsimp -implicitDefEqProofs only [go_sem, rq1, hoo, nz2, rgM0, hoo])
   refine wz_intro (copyStore_new (F := fun j => F (j + 14)) (c := c.store) (by omega)) ?_
   rintro _ gS ⟨lgS, ysgS, bS, rfl, oS, blS⟩
   have ngS := lgS.1
   try simp only [hn_push] at ngS blS
   have rgS0 := lgS.2 (hn g .mk) zau
   have rgS1 := lgS.2 (hn g .mk + 1) zau
   have rgS2 := lgS.2 (hn gM .mk) zau
   simp -dsimp -implicitDefEqProofs only [go_sem, hoo, nz2, nz4, rgM0, rgM1, hoo] at rgS0 rgS1 rgS2
   obtain ⟨s14, s15, rfl, c14, c15⟩ := shStore oS
   replace oM := oM.frame (g' := gS) fun q hq => by
    have hq1 := blM.2 q hq
    refine (show gS.get q = _ from lgS.2 q zau).trans ?_
    first | rfl | (show hg (H2.push _ _) q .mk = hg _ q .mk; rw [hg_push, show (q == hn gM .mk) = false by simp; omega]; rfl)
   have LgS : g.le gS := H2.le.trans zale lgS
   try (rw [kq]; refine ⟨zsm, ?_⟩)
   repeat (first | rw [ko] | rw [kr] | simp -dsimp -implicitDefEqProofs only [go_sem, rq1, rq2, hoo, rgS2, c3, c4, c5, c6, c8, c9, c12, c13, c14, c15])
   refine jz_keep zsm ⟨hn gM .mk, s3, s4, s5, s6, s8, s9, s12, s13, s14, s15, bM, bS, zsm, zale, by omega, zau, by simp -dsimp -implicitDefEqProofs only [go_sem, nz2, rgS0] <;> rfl, by simp -dsimp -implicitDefEqProofs only [go_sem, nz4, rgS1] <;> rfl, by simp -dsimp -implicitDefEqProofs only [go_sem, hoo] <;> rfl, (oM.frame fun q hq => by have h1 := blM.2 q hq; exact zfz), (oS.frame fun q hq => by have h1 := blS.2 q hq; exact zfz), ?_, ?_⟩
   ·exact (blM.append (blS.wide (N' := hn gM .mk) (by omega) (Nat.le_refl _)) (by omega) (by omega)).wide (by omega) zau
   ·intro hx
    rcases List.mem_append.1 hx with h | h
    ·have := blM.2 _ h; omega
    ·have := blS.2 _ h; omega
 ·have nz2 : ((hn g .mk) == (hn g .mk + 1 + 1)) = false := zne
  have nz3 : ((hn g .mk + 1 + 1) == (hn g .mk)) = false := zne
  have nz4 : ((hn g .mk + 1) == (hn g .mk + 1 + 1)) = false := zne
  have nz5 : ((hn g .mk + 1 + 1) == (hn g .mk + 1)) = false := zne
  repeat (first | rw [ko] | rw [kr] | simp -dsimp -implicitDefEqProofs only [go_sem, rq1, hoo, ne1, nz2, hoo, hoo, hoo])
  refine wz_intro (copyModel_new (F := F) (c := c.model) (by omega)) ?_
  rintro _ gM ⟨lgM, ysgM, bM, rfl, oM, blM⟩
  have ngM := lgM.1
  try simp only [hn_push] at ngM blM
  have rgM0 := lgM.2 (hn g .mk) zau
  have rgM1 := lgM.2 (hn g .mk + 1) zau
  have rgM2 := lgM.2 (hn g .mk + 1 + 1) zau
  simp -dsimp -implicitDefEqProofs only [go_sem, hoo, ne1, nz2, nz4, hoo, hoo, hoo] at rgM0 rgM1 rgM2
  obtain ⟨s3, s4, s5, s6, s8, s9, s12, s13, rfl, c3, c4, c5, c6, c8, c9, c12, c13⟩ := shModel oM
  have LgM : g.le gM := H2.le.trans zale lgM
  try (rw [kq]; refine ⟨by simp -dsimp -implicitDefEqProofs only [go_sem, rq1, hoo, rgM0], ?_⟩)
  repeat (first | rw [ko] | rw [kr] | simp -dsimp -implicitDefEqProofs only [go_sem, rq1, hoo])
  refine wz_intro (copyStore_new (F := fun j => F (j + 14)) (c := c.store) (by omega)) ?_
  rintro _ gS ⟨lgS, ysgS, bS, rfl, oS, blS⟩
  have ngS := lgS.1
  try simp only [hn_push, hn_up] at ngS blS
  have rgS0 := lgS.2 (hn g .mk) zau
  have rgS1 := lgS.2 (hn g .mk + 1) zau
  have rgS2 := lgS.2 (hn g .mk + 1 + 1) zau
  simp -dsimp -implicitDefEqProofs only [go_sem, rgM0, rgM1, rgM2] at rgS0 rgS1 rgS2
  obtain ⟨s14, s15, rfl, c14, c15⟩ := shStore oS
  replace oM := oM.frame (g' := gS) fun q hq => by
   have hq1 := blM.2 q hq
   refine (show gS.get q = _ from lgS.2 q zau).trans ?_
   first | rfl | (show hg (H2.push _ _) q .mk = hg _ q .mk; rw [hg_push, show (q == hn gM .mk) = false by simp; omega]; rfl)
  have LgS : g.le gS := H2.le.trans zale lgS
  try (rw [kq]; refine ⟨zsm, ?_⟩)
  repeat (first | rw [ko] | rw [kr] | simp -dsimp -implicitDefEqProofs only [go_sem, rq1, rq2, hoo, rgS2, c3, c4, c5, c6, c8, c9, c12, c13, c14, c15])
  refine jz_keep zsm ⟨hn g .mk + 1 + 1, s3, s4, s5, s6, s8, s9, s12, s13, s14, s15, bM, bS, zsm, zale, by omega, zau, by simp -dsimp -implicitDefEqProofs only [go_sem, nz2, rgS0] <;> rfl, by simp -dsimp -implicitDefEqProofs only [go_sem, nz4, rgS1] <;> rfl, by simp -dsimp -implicitDefEqProofs only [go_sem, hoo] <;> rfl, (oM.frame fun q hq => by have h1 := blM.2 q hq; exact zfz), (oS.frame fun q hq => by have h1 := blS.2 q hq; exact zfz), ?_, ?_⟩
  ·exact (blM.append (blS.wide (N' := hn gM .mk) (by omega) (Nat.le_refl _)) (by omega) (by omega)).wide (by omega) zau
  ·intro hx
   rcases List.mem_append.1 hx with h | h
   ·have := blM.2 _ h; omega
   ·have := blS.2 _ h; omega
end Go.Bi
end
section
set_option maxRecDepth 20000
namespace Go.Bi
open Go.Proofs
open Go.Ai (wrap_i64 wrap_u8)
variable {W0 : World} {P : Program}
set_option maxHeartbeats 8000000
def restP (f : Adr) (k : Nat) (zs : List LPart) : List X := flatX f k (rPartS (zs.drop k))
def Cp (N : Nat) (f : Adr) (zs : List LPart) (k : Nat) (g : H2) (v : X) (bs : List Nat) : Prop :=
 ∃ done, Own N g v 2 zs.length (done ++ restP f k zs) ∧ done.length = k * 2 ∧ OTs g bs done (((zs.take k).map ePart).flatten) ∧ Bl N (hn g .mk) bs ∧ ∀ b, blockOf v = some b → b ∉ bs
theorem Cp.shape {N k : Nat} {f : Adr} {zs : List LPart} {g : H2} {v : X} {bs : List Nat} (c : Cp N f zs k g v bs) : ∃ a, v = .raw (.slice a zs.length zs.length) := by
 obtain ⟨done, ⟨_, h⟩, _⟩ := c
 rcases h with ⟨rfl, h0⟩ | ⟨b, rfl, _⟩
 ·exact ⟨none, by rw [h0]⟩
 ·exact ⟨_, rfl⟩
theorem restP_step {f : Adr} {k : Nat} {zs : List LPart} (hk : k < zs.length) : restP f k zs = .raw (.int .i64 (zs.getD k default).shift) :: .sl (under (under f k) 1) 1 (ints (zs.getD k default).values) :: restP f (k + 1) zs := by
 have hd : zs.drop k = zs.getD k default :: zs.drop (k + 1) := by rw [List.drop_eq_getElem_cons hk, List.getD_eq_getElem?_getD, List.getElem?_eq_getElem hk]; rfl
 unfold restP
 rw [hd]
 rfl
theorem Cp.step {N k : Nat} {f : Adr} {zs : List LPart} {g : H2} {v : X} {bs : List Nat} (c : Cp N f zs k g v bs) (hk : k < zs.length) : ∃ b cs, v = .raw (.slice (some ⟨b, 0, none⟩) zs.length zs.length) ∧ N ≤ b ∧ b < hn g .mk ∧ hg g b .mk = some ⟨2, cs⟩ ∧
  rdL cs (k * 2) 2 = some [.raw (.int .i64 (zs.getD k default).shift), .sl (under (under f k) 1) 1 (ints (zs.getD k default).values)] ∧
  ∀ g' y b2, g.le g' → OT g' b2 y (.l 1 (ints (zs.getD k default).values)) → Bl (hn g .mk) (hn g' .mk) b2 → ∃ cs', wrtL cs (k * 2 + 1) [y] = some cs' ∧ Cp N f zs (k + 1) (g'.set b ⟨2, cs'⟩) v (bs ++ b2) := by
 obtain ⟨done, ⟨hl, h⟩, hd, ot, bl, dj⟩ := c
 rcases h with ⟨rfl, h0⟩ | ⟨b, rfl, hb1, hb2, hb3⟩
 ·omega
 have hdj := dj b rfl
 rw [restP_step hk] at hb3 hl
 refine ⟨b, _, rfl, hb1, hb2, hb3, ?_, ?_⟩
 ·simp only [rdL]
  rw [if_pos (by simp only [List.length_append, List.length_cons]; omega), ← hd]
  simp
 intro g' y b2 l oy bl2
 have e : wrtL (done ++ .raw (.int .i64 (zs.getD k default).shift) :: .sl (under (under f k) 1) 1 (ints (zs.getD k default).values) :: restP f (k + 1) zs) (k * 2 + 1) [y] = some ((done ++ [.raw (.int .i64 (zs.getD k default).shift), y]) ++ restP f (k + 1) zs) := by
  simp only [wrtL]
  rw [if_pos (by simp only [List.length_append, List.length_cons, List.length_nil]; omega), ← hd]
  have e1 : ∀ (A B : List X) (p q : X), (A ++ p :: q :: B).take (A.length + 1) = A ++ [p] := fun A B p q => by
   rw [List.take_append, List.take_of_length_le (by omega), Nat.add_sub_cancel_left]; rfl
  have e2 : ∀ (A B : List X) (p q : X), (A ++ p :: q :: B).drop (A.length + 1 + 1) = B := fun A B p q => by
   rw [List.drop_append, List.drop_of_length_le (by omega), show A.length + 1 + 1 - A.length = 2 by omega]; rfl
  simp only [List.length_cons, List.length_nil, Nat.zero_add]
  rw [e1, e2]
  simp
 refine ⟨_, e, done ++ [.raw (.int .i64 (zs.getD k default).shift), y], ⟨?_, .inr ⟨b, rfl, hb1, Nat.lt_of_lt_of_le hb2 l.1, ?_⟩⟩, ?_, ?_, ?_, ?_⟩
 ·simp only [List.length_append, List.length_cons, List.length_nil] at hl ⊢; omega
 ·rw [hg_set, show (b == b) = true by simp]; rfl
 ·simp only [List.length_append, List.length_cons, List.length_nil]; omega
 ·rw [flat_next (E := ePart) hk]
  refine OTs.append (ot.frame fun q hq => ?_) (OTs.frame (g := g') (outPart (c := zs.getD k default) oy) fun q hq => ?_)
  ·simp only [H2.set]; rw [if_neg (show ¬ q = b from fun e => hdj (e ▸ hq))]; exact l.2 q (bl.2 q hq).2
  ·simp only [H2.set]; have := bl2.2 q hq; rw [if_neg (by omega)]
 ·exact bl.append bl2 (by omega) l.1
 ·intro q hq hm
  cases hq
  rcases List.mem_append.1 hm with h | h
  ·exact hdj h
  ·have h' : b ∈ b2 := h
   have := bl2.2 _ h'; omega
theorem Cp.gr {N : Nat} {f : Adr} {zs : List LPart} {g : H2} {v : X} {bs : List Nat} (c : Cp N f zs zs.length g v bs) : Gr N g v 2 zs.length (((zs.take zs.length).map ePart).flatten) bs := by
 obtain ⟨done, o, hd, ot, bl, dj⟩ := c
 have : restP f zs.length zs = [] := by unfold restP; rw [List.drop_length]; rfl
 rw [this, List.append_nil] at o
 exact ⟨done, o, ot, bl, dj⟩
theorem okP {f : Adr} : ∀ {zs : List LPart} {i : Nat}, (flatX f i (rPartS zs)).all okX = true ∧ (flatX f i (rPartS zs)).length = zs.length * 2
 | [], _ => ⟨rfl, rfl⟩
 | z :: zs, i => by
  have h := okP (f := f) (zs := zs) (i := i + 1)
  have e : flatX f i (rPartS (z :: zs)) = .raw (.int .i64 z.shift) :: .sl (under (under f i) 1) 1 (ints z.values) :: flatX f (i + 1) (rPartS zs) := rfl
  rw [e]
  refine ⟨by simp only [List.all_cons, h.1]; rfl, by simp only [List.length_cons, h.2]; omega⟩
theorem cloneP_own {f : Adr} {zs : List LPart} {g : H2} (hs : zs.length ≤ 1048576) : WC2 Tryz.prog W0 280 [.sl f 2 (rPartS zs)] g (fun v g' => g.le g' ∧ Cp (hn g .mk) f zs 0 g' v []) := by
 have fin : ∀ {g' : H2} {v : X}, Own (hn g .mk) g' v 2 zs.length (flatX f 0 (rPartS zs)) → Cp (hn g .mk) f zs 0 g' v [] := fun o => ⟨[], o, rfl, .nil, .nil, fun b _ => by simp⟩
 refine WC2.asm fun hp s o => ?_
 have hnil := nil_of (o _ List.mem_cons_self)
 refine begins [[0], [0], [], [0]] Tryz.func280 rfl (rs := [.tmp 2]) rfl rfl ?_
 intro wf
 repeat (first | rw [ko] | rw [kr] | simp -dsimp -implicitDefEqProofs only [go_sem])
 refine gz_intro (fun h1 => ?_) (fun h1 => ?_)
 ·have : zs = [] := by have := hnil h1; simpa [rPartS] using this
  subst this
  repeat (first | rw [ko] | rw [kr] | simp -dsimp -implicitDefEqProofs only [go_sem])
  exact ⟨H2.le.refl _, fin Own.nil⟩
 ·repeat (first | rw [ko] | rw [kr] | simp -dsimp -implicitDefEqProofs only [go_sem, rq1, rq2, rq3])
  refine append_own (z := 1) (N := hn g .mk) (m := zs.length) (n := 0) (cs := []) (news := flatX f 0 (rPartS zs)) Go.Ai.ty_el250 Go.Ai.ty_zr267 rfl Go.Ai.ty_cl250 (Own.new (Nat.le_refl _) rfl) (by simp only [hn_push]; omega) ?_ okP.2 okP.1 (by have : Go.Ai.most = 1099511627776 := rfl; omega) ?_
  ·simp only [srcX, if_true, rPartS_len]
  intro v' g' o' h1 h2 _
  simp only [Nat.zero_add, List.nil_append] at o'
  have hv : cellsX v' = some [v'] ∧ okX v' = true ∧ isTpX v' = false := by
   obtain ⟨_, h⟩ := o'
   rcases h with ⟨rfl, _⟩ | ⟨b, rfl, _⟩ <;> exact ⟨rfl, rfl, rfl⟩
  repeat (first | rw [ko] | rw [kr] | simp -dsimp -implicitDefEqProofs only [go_sem])
  exact ⟨h2 g (Nat.le_refl _) (le_push (H2.le.refl _)), fin o'⟩
theorem cloneParts_new {f : Adr} {zs : List (List LPart)} {g : H2} (hs : szPartSS zs ≤ 1048576) : NewT Tryz.prog W0 273 [.sl f 1 (rPartSS zs)] g (.l 1 (rPartSS zs)) := by
 have hl : zs.length ≤ 1048576 := by unfold szPartSS at hs; omega
 refine begins [[0], [0], [0, 3], [3, 9, 10, 11], [3, 9, 10, 11], [3, 5, 9, 10, 11], [3, 6, 9, 10, 11], [3, 6, 9, 10, 11, 17, 18, 19], [3, 6, 9, 10, 11, 17, 18, 19], [3, 6, 7, 8, 9, 10, 11, 17, 18, 19], [3, 6, 9, 10, 11, 17, 18, 19], [3, 6, 9, 10, 11], [3, 9, 10, 11], [3]] Tryz.func273 rfl (rs := [.tmp 2]) rfl rfl ?_
 intro wf
 repeat (first | rw [ko] | rw [kr] | simp -dsimp -implicitDefEqProofs only [go_sem])
 refine lz_keep [9, 10] (fun m e h' => ∃ (i : Nat) (v : X) (bs : List Nat), look e 11 .mk = .raw (.int .i64 (i : Nat)) ∧ look e 3 .mk = v ∧ m + i = zs.length ∧ g.le h' ∧ Gr (hn g .mk) h' v 1 i (((zs.take i).map ePartS).flatten) bs) zs.length ?_ ?_
 ·exact ⟨0, _, [], zsm, by simp -dsimp -implicitDefEqProofs only [go_sem, rq1] <;> rfl, by omega, H2.le.refl _, Gr.nil⟩
 rintro m e h' hks ⟨i, v, bs, ei, ev, hm, hle, gr⟩
 simp -dsimp -implicitDefEqProofs only [go_sem] at hks
 by_cases q1 : (i : Int) < (zs.length : Int)
 ·have q2 : i < zs.length := by omega
  have w1 := wrap_succ q2 (by omega)
  have hsl : szPartS (zs.getD i default) ≤ sumN szPartS zs := sumN_mem (f := szPartS) (getD_mem q2)
  have hsz2 : szPartSS zs = zs.length + sumN szPartS zs := rfl
  have hv := Gr.cell gr
  have hp : (zs.getD i default).length ≤ 1048576 := by have : szPartS (zs.getD i default) = (zs.getD i default).length + sumN szPart (zs.getD i default) := rfl; omega
  repeat (first | rw [ko] | rw [kr] | simp -dsimp -implicitDefEqProofs only [go_sem, rq1, hks, ei, ev, q1, q2])
  refine wz_intro (cloneP_own (f := under (under f i) 0) (zs := zs.getD i default) hp) ?_
  rintro w g0 ⟨l0, cp0⟩
  obtain ⟨aa, rfl⟩ := cp0.shape
  repeat (first | rw [ko] | rw [kr] | simp -dsimp -implicitDefEqProofs only [go_sem, rq1])
  refine lz_keep [3, 6, 9, 10, 11, 17, 18] (fun m2 e2 h2 => ∃ (k : Nat) (bs2 : List Nat), look e2 19 .mk = .raw (.int .i64 (k : Nat)) ∧ m2 + k = (zs.getD i default).length ∧ h'.le h2 ∧ Cp (hn h' .mk) (under (under f i) 0) (zs.getD i default) k h2 (.raw (.slice aa (zs.getD i default).length (zs.getD i default).length)) bs2) (zs.getD i default).length ?_ ?_
  ·exact ⟨0, [], zsm, by omega, l0, cp0⟩
  rintro m2 e2 h2 hks2 ⟨k, bs2, ek, hm2, hle2, cp⟩
  simp -dsimp -implicitDefEqProofs only [go_sem, rq1] at hks2
  by_cases p1 : (k : Int) < ((zs.getD i default).length : Int)
  ·have p2 : k < (zs.getD i default).length := by omega
   have w2 := wrap_succ p2 (by omega)
   have hi2 : (0 : Int) ≤ (k : Int) ∧ (k : Int) < ((zs.getD i default).length : Int) := by omega
   have hsv : szPart ((zs.getD i default).getD k default) ≤ sumN szPart (zs.getD i default) := sumN_mem (f := szPart) (getD_mem p2)
   have hsv1 : szPartS (zs.getD i default) = (zs.getD i default).length + sumN szPart (zs.getD i default) := rfl
   have hsv2 : szPart ((zs.getD i default).getD k default) = ((zs.getD i default).getD k default).values.length := rfl
   obtain ⟨b, cs, hvb, hb1, hb2, hb3, hb4, fin⟩ := cp.step p2
   simp only [X.raw.injEq, Value.slice.injEq, and_true] at hvb
   subst hvb
   have nb1 : (b == hn h2 .mk) = false := zne
   have nb2 : (hn h2 .mk == b) = false := zne
   repeat (first | rw [ko] | rw [kr] | simp -dsimp -implicitDefEqProofs only [go_sem, rq1, rq2, hks2, ek, p1, hi2, Int.toNat_natCast, hoo, hb3, hb4])
   refine wz_intro (cloneI_new (by omega)) ?_
   rintro y g3 ⟨l3, b3, o3, bl3⟩
   have hy := OT.cell o3
   have n3 := l3.1
   try simp only [hn_push] at n3 bl3
   have rb := l3.2 b (by simp only [hn_push]; omega)
   simp -dsimp -implicitDefEqProofs only [go_sem, hb3, nb1] at rb
   have L3 : h2.le g3 := H2.le.trans zale l3
   obtain ⟨cs', hw', cp'⟩ := fin g3 y b3 L3 o3 (bl3.wide (by omega) (Nat.le_refl _))
   repeat (first | rw [ko] | rw [kr] | simp -dsimp -implicitDefEqProofs only [go_sem, rq1, p1, hi2, Int.toNat_natCast, hoo, w2, rb, hy, hw'])
   exact nx_keep (m2 - 1) (by omega) zsm ⟨k + 1, _, zsm, by omega, le_set (hle2.trans L3) (by omega), cp'⟩
  repeat (first | rw [ko] | rw [kr] | simp -dsimp -implicitDefEqProofs only [go_sem, rq1, rq3, hks2, ek, p1])
  have hk2 : k = (zs.getD i default).length := by omega
  rw [hk2] at cp
  have gr2 := cp.gr
  rw [List.take_length] at gr2
  obtain ⟨b1, o1', bl1⟩ := Gr.tree (es := rPartS (zs.getD i default)) gr2 (by rw [rPartS_len]) (fun e he => by obtain ⟨x, _, rfl⟩ := List.mem_map.1 he; rfl)
  have o1 := OTs.one o1'
  have l1 := hle2
  refine lit_intro (cs := [.raw (.slice aa (zs.getD i default).length (zs.getD i default).length)]) rfl ?_
  intro w g2 hs2 l2
  repeat (first | rw [ko] | rw [kr] | simp -dsimp -implicitDefEqProofs only [go_sem])
  have gr1 := gr.keep (l1.trans l2)
  have hvl := gr.lt
  have ll1 := l1.1
  have ll2 := l2.1
  have ll0 := hle.1
  refine append_gr (P := Tryz.prog) (D := fun _ => none) (N := hn g .mk) (us := ePartS (zs.getD i default)) Go.Ai.ty_el174 Go.Ai.ty_zr250 rfl Go.Ai.ty_cl174 gr1 hs2 (OTs.frame o1 fun q hq => by have := bl1.2 q hq; exact l2.2 q (by omega)) rfl (by omega) (fun b hb => by have := bl1.2 b hb; omega) bl1.1 (fun b hb hb' => by have := gr.bl b hb; have := bl1.2 b hb'; omega) (fun b e hb' => by have := hvl b e; have := bl1.2 b hb'; omega) (by have : Go.Ai.most = 1099511627776 := rfl; omega) ?_
  intro v' g3 gr3 nn3 le3 fr3
  have hv' := Gr.cell gr3
  repeat (first | rw [ko] | rw [kr] | simp -dsimp -implicitDefEqProofs only [go_sem, rq1, w1])
  refine nx_keep (m - 1) (by omega) zsm ⟨i + 1, v', _, zsm, zsm, by omega, le3 g (Nat.le_refl _) ((hle.trans l1).trans l2), (flat_next (E := ePartS) q2).symm ▸ gr3⟩
 ·repeat (first | rw [ko] | rw [kr] | simp -dsimp -implicitDefEqProofs only [go_sem, rq1, hks, ei, ev, q1])
  have hi : i = zs.length := by omega
  rw [hi, List.take_length] at gr
  obtain ⟨bs', o', bl'⟩ := Gr.tree (es := rPartSS zs) gr (by rw [rPartSS_len]) (fun e he => by obtain ⟨x, _, rfl⟩ := List.mem_map.1 he; rfl)
  exact ⟨hle, bs', o', bl'⟩
end Go.Bi
end
section
set_option maxRecDepth 20000
namespace Go.Bi
open Go.Proofs
open Go.Ai (wrap_i64 wrap_u8)
variable {W0 : World} {P : Program}
set_option maxHeartbeats 8000000
theorem cloneCell_new {F : Nat → Adr} {c : LCell} {g : H2} (hs : szCell c ≤ 1048576) : NewS Tryz.prog W0 258 [.st (xCell F c)] g (eCell c) := by
 have hsz : szCell c = szPartSS c.keys + szPartSS c.values := rfl
 refine begins [[0], [1, 2]] Tryz.func258 rfl (rs := [.cell 2 176]) rfl rfl ?_
 intro wf
 have n01 : (hn g .mk == hn g .mk + 1) = false := by simp
 have n10 : (hn g .mk + 1 == hn g .mk) = false := by simp
 repeat (first | rw [ko] | rw [kr] | simp -dsimp -implicitDefEqProofs only [go_sem, hoo])
 refine dq_intro [(0, []), (1, []), (3, []), (4, []), (2, [4]), (5, []), (6, []), (7, [])] (by kernel_rfl) ?_
 repeat (first | rw [ko] | rw [kr] | simp -dsimp -implicitDefEqProofs only [go_sem, hoo, n01])
 refine wz_intro (cloneParts_new (by omega)) ?_
 rintro y1 g1 ⟨l1, b1, o1, bl1⟩
 have hy1 := OT.cell o1
 have m1 := l1.1
 try simp only [hn_push] at m1 bl1
 have ra1 := l1.2 (hn g .mk) zau
 have ra2 := l1.2 (hn g .mk + 1) zau
 simp -dsimp -implicitDefEqProofs only [go_sem, hoo, n01] at ra1 ra2
 try (rw [kq]; refine ⟨by simp -dsimp -implicitDefEqProofs only [go_sem, hoo, ra1], ?_⟩)
 repeat (first | rw [ko] | rw [kr] | simp -dsimp -implicitDefEqProofs only [go_sem])
 refine wz_intro (cloneParts_new (by omega)) ?_
 rintro y2 g2 ⟨l2, b2, o2, bl2⟩
 have hy2 := OT.cell o2
 have m2 := l2.1
 have rb1 := (l2.2 (hn g .mk) zau).trans ra1
 have rb2 := (l2.2 (hn g .mk + 1) zau).trans ra2
 try (rw [kq]; refine ⟨zsm, ?_⟩)
 repeat (first | rw [ko] | rw [kr] | simp -dsimp -implicitDefEqProofs only [go_sem, rq1, rq2, rb2, hy1, hy2, hoo])
 have L1 : g.le g1 := H2.le.trans (le_push (le_push (H2.le.refl _))) l1
 refine ⟨le_set (L1.trans l2) (by omega), _, b1 ++ b2, rfl, outCell (c := c) ((o1.keep l2 bl1).setN bl1 (by omega)) (o2.setN bl2 (by omega)), ?_⟩
 simp only [hn_set]
 exact (bl1.append bl2 (by omega) (by omega)).wide (by omega) (Nat.le_refl _)
theorem cloneCells_new {f : Adr} {zs : List LCell} {g : H2} (hs : szCellS zs ≤ 1048576) : NewT Tryz.prog W0 231 [.sl f 2 (rCellS zs)] g (.l 2 (rCellS zs)) := by
 have hl : zs.length ≤ 1048576 := by unfold szCellS at hs; omega
 refine begins [[0], [0], [0, 3], [3, 6, 7, 8], [3, 6, 7, 8], [3, 5, 6, 7, 8], [3, 6, 7, 8], [3]] Tryz.func231 rfl (rs := [.tmp 2]) rfl rfl ?_
 intro wf
 repeat (first | rw [ko] | rw [kr] | simp -dsimp -implicitDefEqProofs only [go_sem])
 refine lz_keep [6, 7] (fun m e h' => ∃ (i : Nat) (v : X) (bs : List Nat), look e 8 .mk = .raw (.int .i64 (i : Nat)) ∧ look e 3 .mk = v ∧ m + i = zs.length ∧ g.le h' ∧ Gr (hn g .mk) h' v 2 i (((zs.take i).map eCell).flatten) bs) zs.length ?_ ?_
 ·exact ⟨0, _, [], zsm, by simp -dsimp -implicitDefEqProofs only [go_sem, rq1] <;> rfl, by omega, H2.le.refl _, Gr.nil⟩
 rintro m e h' hks ⟨i, v, bs, ei, ev, hm, hle, gr⟩
 simp -dsimp -implicitDefEqProofs only [go_sem] at hks
 by_cases q1 : (i : Int) < (zs.length : Int)
 ·have q2 : i < zs.length := by omega
  have w1 := wrap_succ q2 (by omega)
  have hsl : szCell (zs.getD i default) ≤ sumN szCell zs := sumN_mem (f := szCell) (getD_mem q2)
  have hsz2 : szCellS zs = zs.length + sumN szCell zs := rfl
  have hv := Gr.cell gr
  repeat (first | rw [ko] | rw [kr] | simp -dsimp -implicitDefEqProofs only [go_sem, rq1, rq2, rq3, hks, ei, ev, q1, q2, hoo])
  refine wz_intro (cloneCell_new (F := fun j => under (under f i) j) (c := zs.getD i default) (by omega)) ?_
  rintro _ g1 ⟨l1', ys, b1, rfl, o1, bl1⟩
  obtain ⟨b0, s0, b2, s2, rfl, rfl, oa, ob⟩ := invCell o1
  have hy1 := OT.cell oa
  have hy2 := OT.cell ob
  have l1 : h'.le g1 := H2.le.trans (le_push (H2.le.refl _)) l1'
  have ll1' := l1'.1
  try simp only [hn_push] at bl1 ll1'
  repeat (first | rw [ko] | rw [kr] | simp -dsimp -implicitDefEqProofs only [go_sem, rq2, rq3, rq4])
  refine lit_intro (cs := [s0, s2]) rfl ?_
  intro w g2 hs2 l2
  repeat (first | rw [ko] | rw [kr] | simp -dsimp -implicitDefEqProofs only [go_sem])
  have gr1 := gr.keep (l1.trans l2)
  have hvl := gr.lt
  have ll1 := l1.1
  have ll2 := l2.1
  have ll0 := hle.1
  refine append_gr (P := Tryz.prog) (D := fun _ => none) (N := hn g .mk) (us := eCell (zs.getD i default)) Go.Ai.ty_el171 Go.Ai.ty_zr176 rfl Go.Ai.ty_cl171 gr1 hs2 (OTs.frame o1 fun q hq => by have := bl1.2 q hq; exact l2.2 q (by omega)) rfl (by omega) (fun b hb => by have := bl1.2 b hb; omega) bl1.1 (fun b hb hb' => by have := gr.bl b hb; have := bl1.2 b hb'; omega) (fun b e hb' => by have := hvl b e; have := bl1.2 b hb'; omega) (by have : Go.Ai.most = 1099511627776 := rfl; omega) ?_
  intro v' g3 gr3 nn3 le3 fr3
  have hv' := Gr.cell gr3
  repeat (first | rw [ko] | rw [kr] | simp -dsimp -implicitDefEqProofs only [go_sem, rq1, w1])
  refine nx_keep (m - 1) (by omega) zsm ⟨i + 1, v', _, zsm, zsm, by omega, le3 g (Nat.le_refl _) ((hle.trans l1).trans l2), (flat_next (E := eCell) q2).symm ▸ gr3⟩
 ·repeat (first | rw [ko] | rw [kr] | simp -dsimp -implicitDefEqProofs only [go_sem, rq1, hks, ei, ev, q1])
  have hi : i = zs.length := by omega
  rw [hi, List.take_length] at gr
  obtain ⟨bs', o', bl'⟩ := Gr.tree (es := rCellS zs) gr (by rw [rCellS_len]) (fun e he => by obtain ⟨x, _, rfl⟩ := List.mem_map.1 he; rfl)
  exact ⟨hle, bs', o', bl'⟩
theorem cloneStore_new {F : Nat → Adr} {c : LStore} {g : H2} (hs : szStore c ≤ 1048576) : NewS Tryz.prog W0 189 [.st (xStore F c)] g (eStore c) := by
 have hsz : szStore c = c.refs.length + (c.pages.length + sumN szCellS c.pages) := rfl
 refine begins [[0], [1, 2], [1, 2, 3], [2, 3, 11, 12, 13], [2, 3, 11, 12, 13], [2, 3, 5, 11, 12, 13], [2, 3, 11, 12, 13], [2, 3]] Tryz.func189 rfl (rs := [.cell 2 38]) rfl rfl ?_
 intro wf
 have n01 : ((hn g .mk) == (hn g .mk + 1)) = false := zne
 have n10 : ((hn g .mk + 1) == (hn g .mk)) = false := zne
 have n0x : ((hn g .mk) == hn g .mk + 1 + 1) = false := zne
 have n1x : ((hn g .mk + 1) == hn g .mk + 1 + 1) = false := by simp
 repeat (first | rw [ko] | rw [kr] | simp -dsimp -implicitDefEqProofs only [go_sem, hoo, n01])
 refine wz_intro (cloneI_new (by omega)) ?_
 rintro sq gq ⟨lq, bq, oq, blq⟩
 have hq := OT.cell oq
 have nq := lq.1
 try simp only [hn_push] at nq blq
 have s1 := lq.2 (hn g .mk) zau
 have s2 := lq.2 (hn g .mk + 1) zau
 simp -dsimp -implicitDefEqProofs only [go_sem, hoo, n01] at s1 s2
 have n02 : ((hn g .mk) == (hn gq .mk)) = false := zne
 have n12 : ((hn g .mk + 1) == (hn gq .mk)) = false := zne
 have n20 : ((hn gq .mk) == (hn g .mk)) = false := zne
 have n21 : ((hn gq .mk) == (hn g .mk + 1)) = false := zne
 have Lq : g.le gq := H2.le.trans (le_push (le_push (H2.le.refl _))) lq
 repeat (first | rw [ko] | rw [kr] | simp -dsimp -implicitDefEqProofs only [go_sem, rq1, rq2, hoo, n02, s1, hq])
 refine lz_keep [2, 3, 11, 12] (fun m e h' => ∃ (i : Nat) (v : X) (bs : List Nat), look e 13 .mk = .raw (.int .i64 (i : Nat)) ∧ m + i = c.pages.length ∧ gq.le h' ∧ hn gq .mk + 1 ≤ hn h' .mk ∧ hg h' (hn gq .mk) .mk = some ⟨2, [sq, v]⟩ ∧ Gr (hn gq .mk + 1) h' v 1 i (((c.pages.take i).map eCellS).flatten) bs) c.pages.length ?_ ?_
 ·exact ⟨0, .raw (.slice none 0 0), [], zsm, by omega, zale, by simp only [hn_push]; omega, by simp -dsimp -implicitDefEqProofs only [go_sem, hoo] <;> rfl, Gr.nil⟩
 rintro m e h' hks ⟨i, v, bs, ei, hm, hle, hnn, r3, gr⟩
 simp -dsimp -implicitDefEqProofs only [go_sem, rq1] at hks
 have r1 := (hle.2 (hn g .mk) (by omega)).trans s1
 have r2 := (hle.2 (hn g .mk + 1) (by omega)).trans s2
 by_cases q1 : (i : Int) < (c.pages.length : Int)
 ·skip
  have q2 : i < c.pages.length := by omega
  have w1 := wrap_succ q2 (by omega)
  have hv := Gr.cell gr
  have hsl : szCellS (c.pages.getD i default) ≤ sumN szCellS c.pages := sumN_mem (f := szCellS) (getD_mem q2)
  repeat (first | rw [ko] | rw [kr] | simp -dsimp -implicitDefEqProofs only [go_sem, rq1, hks, ei, q1, hoo, q2])
  refine dq_intro [(0, []), (1, []), (2, []), (3, [1]), (4, [1]), (5, []), (6, []), (7, [])] (by kernel_rfl) ?_
  repeat (first | rw [ko] | rw [kr] | simp -dsimp -implicitDefEqProofs only [go_sem, rq1, hoo, r3])
  refine wz_intro (cloneCells_new (f := under (under (F 1) i) 0) (zs := c.pages.getD i default) (by omega)) ?_
  rintro y g1 ⟨l1, b1, o1, bl1⟩
  have hy := OT.cell o1
  have ll1 := l1.1
  have hvl := gr.lt
  have ra0 := (l1.2 (hn g .mk) zau).trans r1
  have ra1 := (l1.2 (hn g .mk + 1) zau).trans r2
  have ra2 := (l1.2 (hn gq .mk) zau).trans r3
  try (rw [kq]; refine ⟨by simp -dsimp -implicitDefEqProofs only [go_sem, hoo, ra2], ?_⟩)
  repeat (first | rw [ko] | rw [kr] | simp -dsimp -implicitDefEqProofs only [go_sem, rq3, hoo, hy])
  refine lit_intro (cs := [y]) rfl ?_
  intro w g2 hs2 l2
  have ll2 := l2.1
  have rb0 := (l2.2 (hn g .mk) zau).trans ra0
  have rb1 := (l2.2 (hn g .mk + 1) zau).trans ra1
  have rb2 := (l2.2 (hn gq .mk) zau).trans ra2
  try (rw [kq]; refine ⟨by simp -dsimp -implicitDefEqProofs only [go_sem, hoo, rb2], ?_⟩)
  repeat (first | rw [ko] | rw [kr] | simp -dsimp -implicitDefEqProofs only [go_sem, hoo])
  refine append_gr (P := Tryz.prog) (D := fun _ => none) (N := hn gq .mk + 1) (us := [.l 2 (rCellS (c.pages.getD i default))]) Go.Ai.ty_el36 Go.Ai.ty_zr171 rfl Go.Ai.ty_cl36 (gr.keep (l1.trans l2)) hs2 (OTs.one (o1.frame fun q hq => by have := bl1.2 q hq; exact l2.2 q (by omega))) rfl (by omega) (fun b hb => by have := bl1.2 b hb; omega) bl1.1 (fun b hb hb' => by have := gr.bl b hb; have := bl1.2 b hb'; omega) (fun b e hb' => by have := hvl b e; have := bl1.2 b hb'; omega) (by have : Go.Ai.most = 1099511627776 := rfl; omega) ?_
  intro v' g3 gr3 nn3 le3 fr3
  have hv' := Gr.cell gr3
  have rc0 := (fr3 (hn g .mk) zau (fun e => by have := hvl _ e; omega)).trans rb0
  have rc1 := (fr3 (hn g .mk + 1) zau (fun e => by have := hvl _ e; omega)).trans rb1
  have rc2 := (fr3 (hn gq .mk) zau (fun e => by have := hvl _ e; omega)).trans rb2
  try (rw [kq]; refine ⟨zsm, ?_⟩)
  repeat (first | rw [ko] | rw [kr] | simp -dsimp -implicitDefEqProofs only [go_sem, rq1, hoo, rc2, w1, hv'])
  refine nx_keep (m - 1) (by omega) zsm ⟨i + 1, v', _, zsm, by omega, le_set (le3 gq (by omega) ((hle.trans l1).trans l2)) (Nat.le_refl _), by simp only [hn_set]; omega, by simp -dsimp -implicitDefEqProofs only [go_sem, hoo] <;> rfl, (flat_next (E := eCellS) q2).symm ▸ Gr.setB gr3 (by omega)⟩
 have hi : i = c.pages.length := by omega
 rw [hi, List.take_length] at gr
 have hv := Gr.cell gr
 obtain ⟨bA, oA, blA⟩ := Gr.tree (es := rCellSS c.pages) gr (by rw [rCellSS_len]) (fun e he => by obtain ⟨x, _, rfl⟩ := List.mem_map.1 he; rfl)
 repeat (first | rw [ko] | rw [kr] | simp -dsimp -implicitDefEqProofs only [go_sem, rq1, rq2, hks, ei, q1, r2, r3, hoo, hv, hq])
 have Lh := Lq.trans hle
 refine ⟨le_set Lh (by omega), _, bq ++ bA, rfl, outStore (c := c) ((oq.keep hle (blq.wide (Nat.zero_le _) (Nat.le_refl _))).setN blq (by omega)) (oA.setN blA (by omega)), ?_⟩
 simp only [hn_set]
 exact (blq.append (blA.wide (N' := hn gq .mk) (by omega) (Nat.le_refl _)) (by omega) (by omega)).wide (by omega) (Nat.le_refl _)
end Go.Bi
end
section
set_option maxRecDepth 20000
namespace Go.Bi
open Go.Proofs
open Go.Ai (wrap_i64 wrap_u8)
variable {W0 : World} {P : Program}
set_option maxHeartbeats 8000000
theorem cloneEngine_new {F : Nat → Adr} {c : LEngine} {g : H2} (hs : szEngine c ≤ 1048576) : NewS Tryz.prog W0 105 [.st (xEngine F c)] g (eEngine c) := by
 have hsz : szEngine c = szModel c.model + szStore c.store + (c.requests.length + sumN szRequest c.requests) := rfl
 refine begins [[0], [1, 2], [1, 2, 3], [2, 3, 14, 15, 16], [2, 3, 14, 15, 16], [2, 3, 5, 14, 15, 16], [2, 3, 5, 14, 15, 16], [2, 3, 14, 15, 16], [2, 3]] Tryz.func105 rfl (rs := [.cell 2 41]) rfl rfl ?_
 intro wf
 have ne1 : (hn g .mk == hn g .mk + 1) = false := by simp
 have ne2 : (hn g .mk + 1 == hn g .mk) = false := by simp
 repeat (first | rw [ko] | rw [kr] | simp -dsimp -implicitDefEqProofs only [go_sem, hoo])
 refine drz_mid [1, 2] (MidE F c g) ?_ ?_
 rotate_left
 ·intro e h0 hks hmid
  obtain ⟨b, s3, s4, s5, s6, s8, s9, s12, s13, s14, s15, bM, bS, e3, hle, hb2, hbn, r1, r2, r3, oM, oS, bl, hnb⟩ := hmid
  simp -dsimp -implicitDefEqProofs only [go_sem] at hks
  have nx1 : ((hn g .mk) == b) = false := zne
  have nx2 : (b == (hn g .mk)) = false := zne
  have nx3 : ((hn g .mk + 1) == b) = false := zne
  have nx4 : (b == (hn g .mk + 1)) = false := zne
  obtain ⟨c3, c4, c5, c6, c8, c9, c12, c13⟩ := oM.cellM
  obtain ⟨c14, c15⟩ := oS.cellS
  repeat (first | rw [ko] | rw [kr] | simp -dsimp -implicitDefEqProofs only [go_sem, hks, e3, r1, hoo])
  refine lz_keep [2, 3, 14, 15] (fun m e2 h' => ∃ (i : Nat) (v : X) (bs : List Nat), look e2 16 .mk = .raw (.int .i64 (i : Nat)) ∧ m + i = c.requests.length ∧ hn h0 .mk ≤ hn h' .mk ∧ (∀ q, q < hn h0 .mk → q ≠ b → hg h' q .mk = hg h0 q .mk) ∧ hg h' b .mk = some ⟨17, [.raw (.int .i64 c.model.dim), .raw (.int .i64 c.model.heads), .raw (.int .i64 c.model.context), s3, s4, s5, s6, .raw (.int .i64 c.model.head.width), s8, s9, .raw (.int .i64 c.model.head.mul), .raw (.int .i64 c.model.head.shift), s12, s13, s14, s15, v]⟩ ∧ Gr (hn h0 .mk) h' v 10 i (((c.requests.take i).map eRequest).flatten) bs) c.requests.length ?_ ?_
  ·exact ⟨0, .raw (.slice none 0 0), [], zsm, by omega, Nat.le_refl _, fun _ _ _ => rfl, by simp -dsimp -implicitDefEqProofs only [go_sem, r3] <;> rfl, Gr.nil⟩
  rintro m e2 h' hks2 ⟨i, v, bs, ei, hm, hn2, fr, q3r, gr⟩
  simp -dsimp -implicitDefEqProofs only [go_sem, rq1] at hks2
  have q1r := (fr (hn g .mk) (by omega) (by omega)).trans r1
  have q2r := (fr (hn g .mk + 1) (by omega) (by omega)).trans r2
  have hv := Gr.cell gr
  by_cases q1 : (i : Int) < (c.requests.length : Int)
  ·have q2 : i < c.requests.length := by omega
   have w1 := wrap_succ q2 (by omega)
   have hsl : szRequest (c.requests.getD i default) ≤ sumN szRequest c.requests := sumN_mem (f := szRequest) (getD_mem q2)
   have hsR : szRequest (c.requests.getD i default) = (c.requests.getD i default).tokens.length + szConfig (c.requests.getD i default).config + (c.requests.getD i default).table.pages.length := rfl
   have hsT : szTable (c.requests.getD i default).table = (c.requests.getD i default).table.pages.length := rfl
   have ny0 : ((hn g .mk) == (hn h' .mk)) = false := zne
   have ny1 : ((hn h' .mk) == (hn g .mk)) = false := zne
   have ny2 : ((hn g .mk) == (hn h' .mk + 1)) = false := zne
   have ny3 : ((b) == (hn h' .mk)) = false := zne
   have ny4 : ((hn h' .mk) == (b)) = false := zne
   have ny5 : ((b) == (hn h' .mk + 1)) = false := zne
   have ny6 : ((hn h' .mk) == (hn h' .mk + 1)) = false := zne
   repeat (first | rw [ko] | rw [kr] | simp -dsimp -implicitDefEqProofs only [go_sem, rq1, rq2, rq3, hks2, ei, q1, q2, hoo])
   refine dq_intro [(0, []), (1, []), (3, []), (4, []), (6, []), (7, []), (2, [4, 7]), (9, []), (5, [7]), (8, []), (10, []), (11, []), (12, []), (13, []), (14, [])] (by kernel_rfl) ?_
   repeat (first | rw [ko] | rw [kr] | simp -dsimp -implicitDefEqProofs only [go_sem, rq1, hoo])
   refine wz_intro (cloneI_new (by omega)) ?_
   rintro sA gA ⟨lA, bA, oA, blA⟩
   have cA := OT.cell oA
   have nA := lA.1
   try simp only [hn_push] at nA blA
   have rrA0 := lA.2 (hn g .mk) zau
   have rrA1 := lA.2 (b) zau
   have rrA2 := lA.2 (hn h' .mk) zau
   simp -dsimp -implicitDefEqProofs only [go_sem, hoo, ny0, ny3, q1r, q3r] at rrA0 rrA1 rrA2
   have LA : h'.le gA := H2.le.trans zale lA
   try (rw [kq]; refine ⟨by simp -dsimp -implicitDefEqProofs only [go_sem, rq1, hoo, rrA2], ?_⟩)
   have ny7 : ((hn g .mk) == (hn gA .mk)) = false := zne
   have ny8 : ((b) == (hn gA .mk)) = false := zne
   have ny9 : ((hn h' .mk) == (hn gA .mk)) = false := zne
   repeat (first | rw [ko] | rw [kr] | simp -dsimp -implicitDefEqProofs only [go_sem, rq1, hoo])
   refine wz_intro (cloneConfig_new (F := fun j => under (under (F 16) i) (j + 2)) (c := (c.requests.getD i default).config) (by omega)) ?_
   rintro _ gC ⟨lC, ysC, bC, rfl, oC', blC⟩
   obtain ⟨_, sC, rfl, rfl, oC⟩ := invConfig oC'
   have cC := OT.cell oC
   have nC := lC.1
   try simp only [hn_push, hn_set] at nC blC
   have rrC0 := lC.2 (hn g .mk) zau
   have rrC1 := lC.2 (b) zau
   have rrC2 := lC.2 (hn h' .mk) zau
   simp -dsimp -implicitDefEqProofs only [go_sem, rrA0, rrA1, rrA2] at rrC0 rrC1 rrC2
   replace oA : OT gC bA sA (.l 1 (ints (c.requests.getD i default).tokens)) := oA.frame fun q hq => by
    have hq1 := blA.2 q hq
    exact (show gC.get q = _ from lC.2 q zau).trans zfz
   have LC : h'.le gC := H2.le.trans zale lC
   try (rw [kq]; refine ⟨by simp -dsimp -implicitDefEqProofs only [go_sem, rq1, hoo, rrC2], ?_⟩)
   repeat (first | rw [ko] | rw [kr] | simp -dsimp -implicitDefEqProofs only [go_sem, rq1, hoo])
   refine wz_intro (cloneTable_new (F := fun j => under (under (F 16) i) (j + 7)) (c := (c.requests.getD i default).table) (by omega)) ?_
   rintro _ gT ⟨lT, ysT, bT, rfl, oT', blT⟩
   obtain ⟨_, sT, rfl, rfl, oT⟩ := invTable oT'
   have cT := OT.cell oT
   have nT := lT.1
   try simp only [hn_push, hn_set] at nT blT
   have rrT0 := lT.2 (hn g .mk) zau
   have rrT1 := lT.2 (b) zau
   have rrT2 := lT.2 (hn h' .mk) zau
   simp -dsimp -implicitDefEqProofs only [go_sem, rrC0, rrC1, rrC2] at rrT0 rrT1 rrT2
   replace oA : OT gT bA sA (.l 1 (ints (c.requests.getD i default).tokens)) := oA.frame fun q hq => by
    have hq1 := blA.2 q hq
    exact (show gT.get q = _ from lT.2 q zau).trans zfz
   replace oC : OT gT bC sC (.l 1 (strs (c.requests.getD i default).config.stops)) := oC.frame fun q hq => by
    have hq1 := blC.2 q hq
    exact (show gT.get q = _ from lT.2 q zau).trans zfz
   have LT : h'.le gT := H2.le.trans zale lT
   try (rw [kq]; refine ⟨zsm, ?_⟩)
   repeat (first | rw [ko] | rw [kr] | simp -dsimp -implicitDefEqProofs only [go_sem, rq1, rq2, rq3, rq4, hoo, ny3, rrT1, rrT2, cA, cC, cT])
   refine lit_intro rfl ?_
   intro w9 g9 hs9 l9
   have n9 := l9.1
   try simp only [hn_set] at n9
   have r9_0 := l9.2 (hn g .mk) zau
   have r9_1 := l9.2 (b) zau
   have r9_2 := l9.2 (hn h' .mk) zau
   simp -dsimp -implicitDefEqProofs only [go_sem, hoo, ny0, ny3, rrT0, rrT1] at r9_0 r9_1 r9_2
   have L9 : h'.le g9 := H2.le.trans zale l9
   repeat (first | rw [ko] | rw [kr] | simp -dsimp -implicitDefEqProofs only [go_sem, hoo])
   replace oA : OT g9 bA sA (.l 1 (ints (c.requests.getD i default).tokens)) := oA.frame fun q hq => by
    have hq1 := blA.2 q hq
    exact (show g9.get q = _ from l9.2 q zau).trans zfz
   replace oC : OT g9 bC sC (.l 1 (strs (c.requests.getD i default).config.stops)) := oC.frame fun q hq => by
    have hq1 := blC.2 q hq
    exact (show g9.get q = _ from l9.2 q zau).trans zfz
   replace oT : OT g9 bT sT (.l 1 (ints (c.requests.getD i default).table.pages)) := oT.frame fun q hq => by
    have hq1 := blT.2 q hq
    exact (show g9.get q = _ from l9.2 q zau).trans zfz
   have oL := outRequest (c := (c.requests.getD i default)) oA oC oT
   have bX := blA.append (blC.append blT (by omega) (by omega)) (by omega) (by omega)
   have hvl := gr.lt
   refine append_gr (P := Tryz.prog) (D := fun _ => none) (N := hn h0 .mk) (us := eRequest (c.requests.getD i default)) Go.Ai.ty_el39 Go.Ai.ty_zr102 rfl Go.Ai.ty_cl39 (gr.keep L9) hs9 oL rfl (by omega) (fun q hb => by have := bX.2 q hb; omega) bX.1 (fun q hb hb' => by have := gr.bl q hb; have := bX.2 q hb'; omega) (fun q e hb' => by have := hvl q e; have := bX.2 q hb'; omega) (by have : Go.Ai.most = 1099511627776 := rfl; omega) ?_
   intro v' g10 gr10 n10 le10 fr10
   have rb := (fr10 b (by omega) (fun e => by have := hvl _ e; omega)).trans r9_1
   have hv' := Gr.cell gr10
   repeat (first | rw [ko] | rw [kr] | simp -dsimp -implicitDefEqProofs only [go_sem, rq1, hoo, w1, rb, hv'])
   refine nx_keep (m - 1) (by omega) zsm ⟨i + 1, v', _, zsm, by omega, by simp only [hn_set]; omega, fun q h1 h2 => ?_, by simp -dsimp -implicitDefEqProofs only [go_sem, hoo] <;> rfl, (flat_next (E := eRequest) q2).symm ▸ Gr.setB gr10 (by omega)⟩
   rw [hg_set, show (q == b) = false by simp [h2]]
   exact ((fr10 q (by omega) (fun e => by have := hvl _ e; omega)).trans (L9.2 q (by omega))).trans (fr q h1 h2)
  have hi : i = c.requests.length := by omega
  rw [hi, List.take_length] at gr
  obtain ⟨bR, oR, blR⟩ := Gr.tree (es := rRequestS c.requests) gr (by rw [rRequestS_len]) (fun e he => by obtain ⟨x, _, rfl⟩ := List.mem_map.1 he; rfl)
  repeat (first | rw [ko] | rw [kr] | simp -dsimp -implicitDefEqProofs only [go_sem, rq1, rq2, hks2, ei, q1, q2r, q3r, hoo, hv, c3, c4, c5, c6, c8, c9, c12, c13, c14, c15])
  have hle2 : g.le h' := ⟨by have := hle.1; omega, fun q hq => (fr q (by have := hle.1; omega) (by omega)).trans (hle.2 q hq)⟩
  refine ⟨le_set hle2 (by omega), _, bM ++ (bS ++ bR), rfl, outEngine2 (c := c) ((oM.frame (g' := h') fun q hq => fr q (by have := bl.split.1.2 q hq; omega) (fun e => hnb (by rw [← e]; simp [hq]))).setN bl.split.1 (by omega)) ((oS.frame (g' := h') fun q hq => fr q (by have := bl.split.2.1.2 q hq; omega) (fun e => hnb (by rw [← e]; simp [hq]))).setN bl.split.2.1 (by omega)) (oR.setN blR (by omega)), ?_⟩
  simp only [hn_set]
  have hA := bl.append blR (by omega) (by omega)
  rw [List.append_assoc] at hA
  exact hA.wide (by omega) (Nat.le_refl _)
 refine dt_intro (.op 0 [] (.op 1 [] (.op 3 [] (.op 4 [] (.alt (.op 2 [4] (.alt (.op 5 [] (.op 6 [] (.op 7 [1, 4] (.op 8 [] .nil)))) (.op 7 [1, 4] (.op 5 [] (.op 6 [] (.op 8 [] .nil)))))) (.op 7 [1, 4] (.op 2 [4] (.op 5 [] (.op 6 [] (.op 8 [] .nil)))))))))) (by kernel_rfl) ?_
 repeat (first | rw [ko] | rw [kr] | simp -dsimp -implicitDefEqProofs only [go_sem, rq1, hoo, ne1, hoo, hoo])
 rw [run_alt]
 refine ⟨?_, ?_⟩
 ·repeat (first | rw [ko] | rw [kr] | simp -dsimp -implicitDefEqProofs only [go_sem, hoo, hoo, hoo])
  refine wz_intro (cloneModel_new (F := F) (c := c.model) (by omega)) ?_
  rintro _ gM ⟨lgM, ysgM, bM, rfl, oM, blM⟩
  have ngM := lgM.1
  try simp only [hn_push] at ngM blM
  have rgM0 := lgM.2 (hn g .mk) zau
  have rgM1 := lgM.2 (hn g .mk + 1) zau
  simp -dsimp -implicitDefEqProofs only [go_sem, hoo, ne1, hoo, hoo] at rgM0 rgM1
  obtain ⟨s3, s4, s5, s6, s8, s9, s12, s13, rfl, c3, c4, c5, c6, c8, c9, c12, c13⟩ := shModel oM
  have LgM : g.le gM := H2.le.trans zale lgM
  try (rw [kq]; refine ⟨by simp -dsimp -implicitDefEqProofs only [go_sem, hoo, rgM0], ?_⟩)
  repeat (first | rw [ko] | rw [kr] | simp -dsimp -implicitDefEqProofs only [go_sem, rq1, rq2, rq3, rq4, rq5, rq6, rq7, hoo, ne1, ne2, rgM0, rgM1, c3, c4, c5, c6, c8, c9, c12, c13])
  rw [run_alt]
  refine ⟨?_, ?_⟩
  ·repeat (first | rw [ko] | rw [kr] | simp -dsimp -implicitDefEqProofs only [go_sem, hoo])
   refine wz_intro (cloneStore_new (F := fun j => F (j + 14)) (c := c.store) (by omega)) ?_
   rintro _ gS ⟨lgS, ysgS, bS, rfl, oS, blS⟩
   have ngS := lgS.1
   try simp only [hn_push, hn_up] at ngS blS
   have rgS0 := lgS.2 (hn g .mk) zau
   have rgS1 := lgS.2 (hn g .mk + 1) zau
   simp -dsimp -implicitDefEqProofs only [go_sem, rgM0, rgM1] at rgS0 rgS1
   obtain ⟨s14, s15, rfl, c14, c15⟩ := shStore oS
   replace oM := oM.frame (g' := gS) fun q hq => by
    have hq1 := blM.2 q hq
    refine (show gS.get q = _ from lgS.2 q zau).trans ?_
    first | rfl | (show hg (H2.push _ _) q .mk = hg _ q .mk; rw [hg_push, show (q == hn gM .mk) = false by simp; omega]; rfl)
   have LgS : g.le gS := H2.le.trans zale lgS
   try (rw [kq]; refine ⟨zsm, ?_⟩)
   repeat (first | rw [ko] | rw [kr] | simp -dsimp -implicitDefEqProofs only [go_sem, rq1, rq2, hoo, c3, c4, c5, c6, c8, c9, c12, c13, c14, c15])
   have nz2 : ((hn g .mk) == (hn gS .mk)) = false := zne
   have nz3 : ((hn gS .mk) == (hn g .mk)) = false := zne
   have nz4 : ((hn g .mk + 1) == (hn gS .mk)) = false := zne
   have nz5 : ((hn gS .mk) == (hn g .mk + 1)) = false := zne
   repeat (first | rw [ko] | rw [kr] | simp -dsimp -implicitDefEqProofs only [go_sem, nz2, rgS0])
   refine jz_keep zsm ⟨hn gS .mk, s3, s4, s5, s6, s8, s9, s12, s13, s14, s15, bM, bS, zsm, zale, by omega, zau, by simp -dsimp -implicitDefEqProofs only [go_sem, nz2, rgS0] <;> rfl, by simp -dsimp -implicitDefEqProofs only [go_sem, nz4, rgS1] <;> rfl, by simp -dsimp -implicitDefEqProofs only [go_sem, hoo, hoo] <;> rfl, (oM.frame fun q hq => by have h1 := blM.2 q hq; exact zfz), (oS.frame fun q hq => by have h1 := blS.2 q hq; exact zfz), ?_, ?_⟩
   ·exact (blM.append (blS.wide (N' := hn gM .mk) (by omega) (Nat.le_refl _)) (by omega) (by omega)).wide (by omega) zau
   ·intro hx
    rcases List.mem_append.1 hx with h | h
    ·have := blM.2 _ h; omega
    ·have := blS.2 _ h; omega
  ·have nz2 : ((hn g .mk) == (hn gM .mk)) = false := zne
   have nz3 : ((hn gM .mk) == (hn g .mk)) = false := zne
   have nz4 : ((hn g .mk + 1) == (hn gM .mk)) = false := zne
   have nz5 : ((hn gM .mk) == (hn g .mk + 1)) = false := zne
   repeat (first | rw [ko] | rw [kr] | simp -dsimp -implicitDefEqProofs only [go_sem, rq1, hoo, nz2, rgM0, hoo])
   refine wz_intro (cloneStore_new (F := fun j => F (j + 14)) (c := c.store) (by omega)) ?_
   rintro _ gS ⟨lgS, ysgS, bS, rfl, oS, blS⟩
   have ngS := lgS.1
   try simp only [hn_push] at ngS blS
   have rgS0 := lgS.2 (hn g .mk) zau
   have rgS1 := lgS.2 (hn g .mk + 1) zau
   have rgS2 := lgS.2 (hn gM .mk) zau
   simp -dsimp -implicitDefEqProofs only [go_sem, hoo, nz2, nz4, rgM0, rgM1, hoo] at rgS0 rgS1 rgS2
   obtain ⟨s14, s15, rfl, c14, c15⟩ := shStore oS
   replace oM := oM.frame (g' := gS) fun q hq => by
    have hq1 := blM.2 q hq
    refine (show gS.get q = _ from lgS.2 q zau).trans ?_
    first | rfl | (show hg (H2.push _ _) q .mk = hg _ q .mk; rw [hg_push, show (q == hn gM .mk) = false by simp; omega]; rfl)
   have LgS : g.le gS := H2.le.trans zale lgS
   try (rw [kq]; refine ⟨zsm, ?_⟩)
   repeat (first | rw [ko] | rw [kr] | simp -dsimp -implicitDefEqProofs only [go_sem, rq1, rq2, hoo, rgS2, c3, c4, c5, c6, c8, c9, c12, c13, c14, c15])
   refine jz_keep zsm ⟨hn gM .mk, s3, s4, s5, s6, s8, s9, s12, s13, s14, s15, bM, bS, zsm, zale, by omega, zau, by simp -dsimp -implicitDefEqProofs only [go_sem, nz2, rgS0] <;> rfl, by simp -dsimp -implicitDefEqProofs only [go_sem, nz4, rgS1] <;> rfl, by simp -dsimp -implicitDefEqProofs only [go_sem, hoo] <;> rfl, (oM.frame fun q hq => by have h1 := blM.2 q hq; exact zfz), (oS.frame fun q hq => by have h1 := blS.2 q hq; exact zfz), ?_, ?_⟩
   ·exact (blM.append (blS.wide (N' := hn gM .mk) (by omega) (Nat.le_refl _)) (by omega) (by omega)).wide (by omega) zau
   ·intro hx
    rcases List.mem_append.1 hx with h | h
    ·have := blM.2 _ h; omega
    ·have := blS.2 _ h; omega
 ·have nz2 : ((hn g .mk) == (hn g .mk + 1 + 1)) = false := zne
  have nz3 : ((hn g .mk + 1 + 1) == (hn g .mk)) = false := zne
  have nz4 : ((hn g .mk + 1) == (hn g .mk + 1 + 1)) = false := zne
  have nz5 : ((hn g .mk + 1 + 1) == (hn g .mk + 1)) = false := zne
  repeat (first | rw [ko] | rw [kr] | simp -dsimp -implicitDefEqProofs only [go_sem, rq1, hoo, ne1, nz2, hoo, hoo, hoo])
  refine wz_intro (cloneModel_new (F := F) (c := c.model) (by omega)) ?_
  rintro _ gM ⟨lgM, ysgM, bM, rfl, oM, blM⟩
  have ngM := lgM.1
  try simp only [hn_push] at ngM blM
  have rgM0 := lgM.2 (hn g .mk) zau
  have rgM1 := lgM.2 (hn g .mk + 1) zau
  have rgM2 := lgM.2 (hn g .mk + 1 + 1) zau
  simp -dsimp -implicitDefEqProofs only [go_sem, hoo, ne1, nz2, nz4, hoo, hoo, hoo] at rgM0 rgM1 rgM2
  obtain ⟨s3, s4, s5, s6, s8, s9, s12, s13, rfl, c3, c4, c5, c6, c8, c9, c12, c13⟩ := shModel oM
  have LgM : g.le gM := H2.le.trans zale lgM
  try (rw [kq]; refine ⟨by simp -dsimp -implicitDefEqProofs only [go_sem, rq1, hoo, rgM0], ?_⟩)
  repeat (first | rw [ko] | rw [kr] | simp -dsimp -implicitDefEqProofs only [go_sem, rq1, hoo])
  refine wz_intro (cloneStore_new (F := fun j => F (j + 14)) (c := c.store) (by omega)) ?_
  rintro _ gS ⟨lgS, ysgS, bS, rfl, oS, blS⟩
  have ngS := lgS.1
  try simp only [hn_push, hn_up] at ngS blS
  have rgS0 := lgS.2 (hn g .mk) zau
  have rgS1 := lgS.2 (hn g .mk + 1) zau
  have rgS2 := lgS.2 (hn g .mk + 1 + 1) zau
  simp -dsimp -implicitDefEqProofs only [go_sem, rgM0, rgM1, rgM2] at rgS0 rgS1 rgS2
  obtain ⟨s14, s15, rfl, c14, c15⟩ := shStore oS
  replace oM := oM.frame (g' := gS) fun q hq => by
   have hq1 := blM.2 q hq
   refine (show gS.get q = _ from lgS.2 q zau).trans ?_
   first | rfl | (show hg (H2.push _ _) q .mk = hg _ q .mk; rw [hg_push, show (q == hn gM .mk) = false by simp; omega]; rfl)
  have LgS : g.le gS := H2.le.trans zale lgS
  try (rw [kq]; refine ⟨zsm, ?_⟩)
  repeat (first | rw [ko] | rw [kr] | simp -dsimp -implicitDefEqProofs only [go_sem, rq1, rq2, hoo, rgS2, c3, c4, c5, c6, c8, c9, c12, c13, c14, c15])
  refine jz_keep zsm ⟨hn g .mk + 1 + 1, s3, s4, s5, s6, s8, s9, s12, s13, s14, s15, bM, bS, zsm, zale, by omega, zau, by simp -dsimp -implicitDefEqProofs only [go_sem, nz2, rgS0] <;> rfl, by simp -dsimp -implicitDefEqProofs only [go_sem, nz4, rgS1] <;> rfl, by simp -dsimp -implicitDefEqProofs only [go_sem, hoo] <;> rfl, (oM.frame fun q hq => by have h1 := blM.2 q hq; exact zfz), (oS.frame fun q hq => by have h1 := blS.2 q hq; exact zfz), ?_, ?_⟩
  ·exact (blM.append (blS.wide (N' := hn gM .mk) (by omega) (Nat.le_refl _)) (by omega) (by omega)).wide (by omega) zau
  ·intro hx
   rcases List.mem_append.1 hx with h | h
   ·have := blM.2 _ h; omega
   ·have := blS.2 _ h; omega
end Go.Bi
end
section
set_option maxRecDepth 20000
namespace Go.Bi
open Go.Proofs
open Go.Ai (wrap_i64 wrap_u8 Heap)
variable {W0 : World} {P : Program}
set_option maxHeartbeats 2000000
def widthB (n : Int) : Bool := inI n 4 8 && decide (Int.tmod n 4 = 0)
def rowB (r s : List Int) : Bool := widthB r.length && (allI r (-8) 7 && (decide ((s.length : Int) = Int.tdiv r.length 4) && allI s 1 127))
def gainB (r : List Int) (n : Int) : Bool := decide ((r.length : Int) = n) && allI r 0 127
theorem isWidth_ok {n : Int} {h : H2} : WC2 Tryz.prog W0 122 [.raw (.int .i64 n)] h (fun v h' => v = .raw (.bool (widthB n)) ∧ h' = h) := by
 refine begins [[0], [0]] Tryz.func122 rfl (rs := [.tmp 2]) rfl rfl ?_
 intro wf
 repeat (first | rw [ko] | rw [kr] | simp -dsimp -implicitDefEqProofs only [go_sem])
 refine wz_intro in_ok ?_
 rintro _ h' ⟨rfl, rfl⟩
 cases hb : inI n 4 8
 ·repeat (first | rw [ko] | rw [kr] | simp -dsimp -implicitDefEqProofs only [go_sem])
  exact ⟨by rw [widthB, hb]; rfl, rfl⟩
 ·repeat (first | rw [ko] | rw [kr] | simp -dsimp -implicitDefEqProofs only [go_sem, rq1, rq7])
  exact ⟨by rw [widthB, hb]; rfl, rfl⟩
theorem l05Width_ok {n : Int} {h : H2} : WC2 Tryz.prog W0 136 [.raw (.int .i64 n)] h (fun v h' => v = .raw (.bool (widthB n)) ∧ h' = h) := by
 refine begins [[0], [0]] Tryz.func136 rfl (rs := [.tmp 2]) rfl rfl ?_
 intro wf
 repeat (first | rw [ko] | rw [kr] | simp -dsimp -implicitDefEqProofs only [go_sem])
 refine wz_intro l01In_ok ?_
 rintro _ h' ⟨rfl, rfl⟩
 cases hb : inI n 4 8
 ·repeat (first | rw [ko] | rw [kr] | simp -dsimp -implicitDefEqProofs only [go_sem])
  exact ⟨by rw [widthB, hb]; rfl, rfl⟩
 ·repeat (first | rw [ko] | rw [kr] | simp -dsimp -implicitDefEqProofs only [go_sem, rq1, rq7])
  exact ⟨by rw [widthB, hb]; rfl, rfl⟩
theorem width_rng {n : Int} (h : widthB n = true) : n = 4 ∨ n = 8 := by
 unfold widthB inI at h
 simp only [Bool.and_eq_true, decide_eq_true_eq] at h
 obtain ⟨⟨h1, h2⟩, h3⟩ := h
 have h4 : n = 4 ∨ n = 5 ∨ n = 6 ∨ n = 7 ∨ n = 8 := by omega
 rcases h4 with rfl | rfl | rfl | rfl | rfl <;> first | exact .inl rfl | exact .inr rfl | exact absurd h3 (by decide)
theorem quo_len {n : Nat} (h : widthB n = true) : IntKind.i64.wrap (Int.tdiv (n : Int) 4) = Int.tdiv (n : Int) 4 := by
 rcases width_rng h with h | h <;> rw [h] <;> decide
theorem rowOk_ok {f f' : Adr} {r s : List Int} {g : H2} (hr : r.length ≤ 1048576) (hs : s.length ≤ 1048576) : PW Tryz.prog W0 237 [.sl f 1 (ints r), .sl f' 1 (ints s)] g (fun y => y = .raw (.bool (rowB r s))) := by
 refine PW.scalar ?_
 refine begins [[0, 1], [0, 1]] Tryz.func237 rfl (rs := [.tmp 4]) rfl rfl ?_
 intro wf
 repeat (first | rw [ko] | rw [kr] | simp -dsimp -implicitDefEqProofs only [go_sem])
 refine wz_intro isWidth_ok ?_
 rintro _ h' ⟨rfl, rfl⟩
 cases h1 : widthB r.length
 ·repeat (first | rw [ko] | rw [kr] | simp -dsimp -implicitDefEqProofs only [go_sem, rq1])
  exact ⟨H2.le.refl _, ⟨_, rfl⟩, by rw [rowB, h1]; rfl⟩
 repeat (first | rw [ko] | rw [kr] | simp -dsimp -implicitDefEqProofs only [go_sem, rq1])
 refine pw_intro (allIn_ok (by omega)) ?_
 rintro _ n1 hn1 rfl
 cases h2 : allI r (-8) 7
 ·repeat (first | rw [ko] | rw [kr] | simp -dsimp -implicitDefEqProofs only [go_sem, rq1])
  exact ⟨le_up (H2.le.refl _) hn1, ⟨_, rfl⟩, by rw [rowB, h1, h2]; rfl⟩
 have w1 := quo_len h1
 by_cases h3 : (s.length : Int) = Int.tdiv r.length 4
 ·have d3 : decide ((s.length : Int) = Int.tdiv r.length 4) = true := decide_eq_true h3
  repeat (first | rw [ko] | rw [kr] | simp -dsimp -implicitDefEqProofs only [go_sem, rq1, rq7, w1, d3])
  refine pw_intro (allIn_ok (by omega)) ?_
  rintro _ n2 hn2 rfl
  rw [hn_up] at hn2
  repeat (first | rw [ko] | rw [kr] | simp -dsimp -implicitDefEqProofs only [go_sem])
  exact ⟨le_up (le_up (H2.le.refl _) hn1) (by rw [hn_up]; exact hn2), ⟨_, rfl⟩, by rw [rowB, h1, h2, d3]; rfl⟩
 ·have d3 : decide ((s.length : Int) = Int.tdiv r.length 4) = false := decide_eq_false h3
  repeat (first | rw [ko] | rw [kr] | simp -dsimp -implicitDefEqProofs only [go_sem, rq1, rq7, w1, d3])
  exact ⟨le_up (H2.le.refl _) hn1, ⟨_, rfl⟩, by rw [rowB, h1, h2, d3]; rfl⟩
theorem l05Fits_ok {f f' : Adr} {r s : List Int} {g : H2} (hr : r.length ≤ 1048576) (hs : s.length ≤ 1048576) : PW Tryz.prog W0 239 [.sl f 1 (ints r), .sl f' 1 (ints s)] g (fun y => y = .raw (.bool (rowB r s))) := by
 refine PW.scalar ?_
 refine begins [[0, 1], [0, 1]] Tryz.func239 rfl (rs := [.tmp 4]) rfl rfl ?_
 intro wf
 repeat (first | rw [ko] | rw [kr] | simp -dsimp -implicitDefEqProofs only [go_sem])
 refine wz_intro l05Width_ok ?_
 rintro _ h' ⟨rfl, rfl⟩
 cases h1 : widthB r.length
 ·repeat (first | rw [ko] | rw [kr] | simp -dsimp -implicitDefEqProofs only [go_sem, rq1])
  exact ⟨H2.le.refl _, ⟨_, rfl⟩, by rw [rowB, h1]; rfl⟩
 repeat (first | rw [ko] | rw [kr] | simp -dsimp -implicitDefEqProofs only [go_sem, rq1])
 refine pw_intro (l05All_ok (by omega)) ?_
 rintro _ n1 hn1 rfl
 cases h2 : allI r (-8) 7
 ·repeat (first | rw [ko] | rw [kr] | simp -dsimp -implicitDefEqProofs only [go_sem, rq1])
  exact ⟨le_up (H2.le.refl _) hn1, ⟨_, rfl⟩, by rw [rowB, h1, h2]; rfl⟩
 have w1 := quo_len h1
 by_cases h3 : (s.length : Int) = Int.tdiv r.length 4
 ·have d3 : decide ((s.length : Int) = Int.tdiv r.length 4) = true := decide_eq_true h3
  repeat (first | rw [ko] | rw [kr] | simp -dsimp -implicitDefEqProofs only [go_sem, rq1, rq7, w1, d3])
  refine pw_intro (l05All_ok (by omega)) ?_
  rintro _ n2 hn2 rfl
  rw [hn_up] at hn2
  repeat (first | rw [ko] | rw [kr] | simp -dsimp -implicitDefEqProofs only [go_sem])
  exact ⟨le_up (le_up (H2.le.refl _) hn1) (by rw [hn_up]; exact hn2), ⟨_, rfl⟩, by rw [rowB, h1, h2, d3]; rfl⟩
 ·have d3 : decide ((s.length : Int) = Int.tdiv r.length 4) = false := decide_eq_false h3
  repeat (first | rw [ko] | rw [kr] | simp -dsimp -implicitDefEqProofs only [go_sem, rq1, rq7, w1, d3])
  exact ⟨le_up (H2.le.refl _) hn1, ⟨_, rfl⟩, by rw [rowB, h1, h2, d3]; rfl⟩
theorem implGain_ok {f : Adr} {r : List Int} {n : Int} {g : H2} (hr : r.length ≤ 1048576) : PW Tryz.prog W0 129 [.sl f 1 (ints r), .raw (.int .i64 n)] g (fun y => y = .raw (.bool (gainB r n))) := by
 refine PW.scalar ?_
 refine begins [[0, 1], [0, 1]] Tryz.func129 rfl (rs := [.tmp 4]) rfl rfl ?_
 intro wf
 by_cases h1 : (r.length : Int) = n
 ·have d1 : decide ((r.length : Int) = n) = true := decide_eq_true h1
  repeat (first | rw [ko] | rw [kr] | simp -dsimp -implicitDefEqProofs only [go_sem, rq1, d1])
  refine pw_intro (allIn_ok (by omega)) ?_
  rintro _ n1 hn1 rfl
  repeat (first | rw [ko] | rw [kr] | simp -dsimp -implicitDefEqProofs only [go_sem])
  exact ⟨le_up (H2.le.refl _) hn1, ⟨_, rfl⟩, by rw [gainB, d1]; rfl⟩
 ·have d1 : decide ((r.length : Int) = n) = false := decide_eq_false h1
  repeat (first | rw [ko] | rw [kr] | simp -dsimp -implicitDefEqProofs only [go_sem, rq1, d1])
  exact ⟨H2.le.refl _, ⟨_, rfl⟩, by rw [gainB, d1]; rfl⟩
theorem specGain_ok {f : Adr} {r : List Int} {n : Int} {g : H2} (hr : r.length ≤ 1048576) : PW Tryz.prog W0 141 [.sl f 1 (ints r), .raw (.int .i64 n)] g (fun y => y = .raw (.bool (gainB r n))) := by
 refine PW.scalar ?_
 refine begins [[0, 1], [0, 1]] Tryz.func141 rfl (rs := [.tmp 4]) rfl rfl ?_
 intro wf
 by_cases h1 : (r.length : Int) = n
 ·have d1 : decide ((r.length : Int) = n) = true := decide_eq_true h1
  repeat (first | rw [ko] | rw [kr] | simp -dsimp -implicitDefEqProofs only [go_sem, rq1, d1])
  refine pw_intro (l05All_ok (by omega)) ?_
  rintro _ n1 hn1 rfl
  repeat (first | rw [ko] | rw [kr] | simp -dsimp -implicitDefEqProofs only [go_sem])
  exact ⟨le_up (H2.le.refl _) hn1, ⟨_, rfl⟩, by rw [gainB, d1]; rfl⟩
 ·have d1 : decide ((r.length : Int) = n) = false := decide_eq_false h1
  repeat (first | rw [ko] | rw [kr] | simp -dsimp -implicitDefEqProofs only [go_sem, rq1, d1])
  exact ⟨H2.le.refl _, ⟨_, rfl⟩, by rw [gainB, d1]; rfl⟩
end Go.Bi
end
section
set_option maxRecDepth 20000
namespace Go.Bi
open Go.Proofs
open Go.Ai (wrap_i64 wrap_u8 Heap)
variable {W0 : World} {P : Program}
set_option maxHeartbeats 2000000
def absZ (x : Int) : Int := if x < 0 then -x else x
def worstT (r s : List Int) : Nat → Int
 | 0 => 0
 | k + 1 => worstT r s k + s.getD (k / 4) default * 127 * absZ (r.getD k default)
def worstI (r s : List Int) : Int := if rowB r s = true then worstT r s r.length else 0
theorem row_facts {r s : List Int} (h : rowB r s = true) : (r.length = 4 ∨ r.length = 8) ∧ r.length = 4 * s.length ∧ (∀ z ∈ r, -8 ≤ z ∧ z ≤ 7) ∧ ∀ z ∈ s, 1 ≤ z ∧ z ≤ 127 := by
 unfold rowB at h
 simp only [Bool.and_eq_true, decide_eq_true_eq, allI, List.all_eq_true, inI] at h
 obtain ⟨h1, h2, h3, h4⟩ := h
 have hw := width_rng h1
 have e4 : Int.tdiv (4 : Int) 4 = 1 := by decide
 have e8 : Int.tdiv (8 : Int) 4 = 2 := by decide
 refine ⟨by omega, ?_, fun z hz => h2 z hz, fun z hz => h4 z hz⟩
 rcases hw with hw | hw <;> rw [hw] at h3 <;> omega
theorem getD_memZ {l : List Int} {i : Nat} (h : i < l.length) : l.getD i default ∈ l := by
 rw [List.getD_eq_getElem?_getD, List.getElem?_eq_getElem h]; exact List.getElem_mem h
theorem term_rng {r s : List Int} (h : rowB r s = true) {k : Nat} (hk : k < r.length) : (1 ≤ s.getD (k / 4) default ∧ s.getD (k / 4) default ≤ 127) ∧ (-8 ≤ r.getD k default ∧ r.getD k default ≤ 7) ∧ (0 ≤ absZ (r.getD k default) ∧ absZ (r.getD k default) ≤ 8) ∧ 0 ≤ s.getD (k / 4) default * 127 * absZ (r.getD k default) ∧ s.getD (k / 4) default * 127 * absZ (r.getD k default) ≤ 129032 := by
 obtain ⟨hl, hs, hr, hsc⟩ := row_facts h
 have h1 := hr _ (getD_memZ hk)
 have h2 := hsc _ (getD_memZ (show k / 4 < s.length by omega))
 have h3 : 0 ≤ absZ (r.getD k default) ∧ absZ (r.getD k default) ≤ 8 := by unfold absZ; split <;> omega
 refine ⟨h2, h1, h3, Int.mul_nonneg (by omega) h3.1, ?_⟩
 have := Int.mul_le_mul (show s.getD (k / 4) default * 127 ≤ 16129 by omega) h3.2 h3.1 (by omega)
 omega
theorem worstT_rng {r s : List Int} (h : rowB r s = true) : ∀ {k : Nat}, k ≤ r.length → 0 ≤ worstT r s k ∧ worstT r s k ≤ 129032 * (k : Int)
 | 0, _ => by simp [worstT]
 | k + 1, hk => by
  have h1 := worstT_rng h (k := k) (by omega)
  have h2 := (term_rng h (show k < r.length by omega)).2.2.2
  rw [worstT]
  omega
theorem implWorst_ok {f f' : Adr} {r s : List Int} {g : H2} (hr : r.length ≤ 1048576) (hs : s.length ≤ 1048576) : PW Tryz.prog W0 205 [.sl f 1 (ints r), .sl f' 1 (ints s)] g (fun y => y = .raw (.int .i64 (worstI r s))) := by
 refine PW.scalar ?_
 refine begins [[0, 1], [0, 1], [], [0, 1], [0, 1, 5], [1, 5, 12, 13, 14], [1, 5, 12, 13, 14], [1, 5, 6, 7, 12, 13, 14], [1, 5, 12, 13, 14], [5]] Tryz.func205 rfl (rs := [.tmp 4]) rfl rfl ?_
 intro wf
 repeat (first | rw [ko] | rw [kr] | simp -dsimp -implicitDefEqProofs only [go_sem, rq1])
 refine pw_intro (rowOk_ok hr hs) ?_
 rintro _ n1 hn1 rfl
 cases h1 : rowB r s
 ·repeat (first | rw [ko] | rw [kr] | simp -dsimp -implicitDefEqProofs only [go_sem])
  exact ⟨le_up (H2.le.refl _) hn1, ⟨_, rfl⟩, by rw [worstI, h1]; rfl⟩
 repeat (first | rw [ko] | rw [kr] | simp -dsimp -implicitDefEqProofs only [go_sem, rq1])
 have hfa := row_facts h1
 refine lz_keep [1, 12, 13] (fun m e h' => ∃ (i : Nat), h' = g.up n1 ∧ look e 14 .mk = .raw (.int .i64 (i : Nat)) ∧ look e 5 .mk = .raw (.int .i64 (worstT r s i)) ∧ m + i = r.length) r.length ?_ ?_
 ·exact ⟨0, rfl, zsm, by simp -dsimp -implicitDefEqProofs only [go_sem, rq1] <;> rfl, by omega⟩
 ·rintro m e h' hks ⟨i, rfl, e14, e5, hm⟩
  simp -dsimp -implicitDefEqProofs only [go_sem, rq1] at hks
  by_cases h2 : (i : Int) < (r.length : Int)
  ·have h3 : i < r.length := by omega
   obtain ⟨t1, t2, t3, t4, t5⟩ := term_rng h1 h3
   have t6 := worstT_rng h1 (k := i) (by omega)
   have w1 := zwrs i (by omega)
   have w2 : IntKind.i64.wrap (Int.tdiv (i : Int) 4) = ((i / 4 : Nat) : Int) := by
    rw [show Int.tdiv (i : Int) 4 = ((i / 4 : Nat) : Int) from rfl, wrap_i64] <;> omega
   have h4 : i / 4 < s.length := by omega
   have w3 : IntKind.i64.wrap (s.getD (i / 4) default * 127) = s.getD (i / 4) default * 127 := by rw [wrap_i64] <;> omega
   have w4 : IntKind.i64.wrap (0 - (r.getD i default)) = -(r.getD i default) := by rw [wrap_i64] <;> omega
   have w7 : Go.Ai.mxI (r.getD i default) (-(r.getD i default)) = absZ (r.getD i default) := by unfold Go.Ai.mxI absZ; split <;> split <;> omega
   have w5 : IntKind.i64.wrap (s.getD (i / 4) default * 127 * absZ (r.getD i default)) = s.getD (i / 4) default * 127 * absZ (r.getD i default) := by rw [wrap_i64] <;> omega
   have w6 : IntKind.i64.wrap (worstT r s i + s.getD (i / 4) default * 127 * absZ (r.getD i default)) = worstT r s (i + 1) := by rw [worstT, wrap_i64] <;> omega
   repeat (first | rw [ko] | rw [kr] | simp -dsimp -implicitDefEqProofs only [go_sem, rq1, rq7, hks, e14, e5, h2, h3, h4, w2, w3, w4, w5, w6, w7, w1])
   exact nx_keep (m - 1) (by omega) zsm ⟨i + 1, rfl, zsm, zsm, by omega⟩
  ·obtain rfl : i = r.length := by omega
   repeat (first | rw [ko] | rw [kr] | simp -dsimp -implicitDefEqProofs only [go_sem, rq1, hks, e14, e5, h2])
   exact ⟨le_up (H2.le.refl _) hn1, ⟨_, rfl⟩, by rw [worstI, h1]; rfl⟩
theorem abs_ok {x : Int} {g : H2} (hx : -1000000 ≤ x ∧ x ≤ 1000000) : WC2 Tryz.prog W0 259 [.raw (.int .i64 x)] g (fun v g' => v = .raw (.int .i64 (absZ x)) ∧ g' = g) := by
 refine begins [[0], [0], [0], [0]] Tryz.func259 rfl (rs := [.tmp 2]) rfl rfl ?_
 intro wf
 repeat (first | rw [ko] | rw [kr] | simp -dsimp -implicitDefEqProofs only [go_sem])
 have w1 : IntKind.i64.wrap (0 - x) = -x := by rw [wrap_i64] <;> omega
 refine gz_dec (fun h1 => ?_) (fun h1 => ?_)
 ·repeat (first | rw [ko] | rw [kr] | simp -dsimp -implicitDefEqProofs only [go_sem, w1])
  exact ⟨by rw [absZ, if_pos h1], rfl⟩
 ·repeat (first | rw [ko] | rw [kr] | simp -dsimp -implicitDefEqProofs only [go_sem])
  exact ⟨by rw [absZ, if_neg h1], rfl⟩
theorem specWorst_ok {f f' : Adr} {r s : List Int} {g : H2} (hr : r.length ≤ 1048576) (hs : s.length ≤ 1048576) : PW Tryz.prog W0 240 [.sl f 1 (ints r), .sl f' 1 (ints s)] g (fun y => y = .raw (.int .i64 (worstI r s))) := by
 refine PW.scalar ?_
 refine begins [[0, 1], [0, 1], [], [0, 1], [0, 1, 5], [0, 1, 5, 6], [0, 1, 5, 6], [0, 1, 5, 6], [5]] Tryz.func240 rfl (rs := [.tmp 4]) rfl rfl ?_
 intro wf
 repeat (first | rw [ko] | rw [kr] | simp -dsimp -implicitDefEqProofs only [go_sem, rq1])
 refine pw_intro (l05Fits_ok hr hs) ?_
 rintro _ n1 hn1 rfl
 cases h1 : rowB r s
 ·repeat (first | rw [ko] | rw [kr] | simp -dsimp -implicitDefEqProofs only [go_sem])
  exact ⟨le_up (H2.le.refl _) hn1, ⟨_, rfl⟩, by rw [worstI, h1]; rfl⟩
 repeat (first | rw [ko] | rw [kr] | simp -dsimp -implicitDefEqProofs only [go_sem, rq1])
 have hfa := row_facts h1
 refine lz_keep [0, 1] (fun m e h' => ∃ (i : Nat), h' = g.up n1 ∧ look e 6 .mk = .raw (.int .i64 (i : Nat)) ∧ look e 5 .mk = .raw (.int .i64 (worstT r s i)) ∧ m + i = r.length) r.length ?_ ?_
 ·exact ⟨0, rfl, zsm, by simp -dsimp -implicitDefEqProofs only [go_sem] <;> rfl, by omega⟩
 ·rintro m e h' hks ⟨i, rfl, e6, e5, hm⟩
  simp -dsimp -implicitDefEqProofs only [go_sem, rq1] at hks
  by_cases h2 : (i : Int) < (r.length : Int)
  ·have h3 : i < r.length := by omega
   obtain ⟨t1, t2, t3, t4, t5⟩ := term_rng h1 h3
   have t6 := worstT_rng h1 (k := i) (by omega)
   have w1 := zwrs i (by omega)
   have w2 : IntKind.i64.wrap (Int.tdiv (i : Int) 4) = ((i / 4 : Nat) : Int) := by
    rw [show Int.tdiv (i : Int) 4 = ((i / 4 : Nat) : Int) from rfl, wrap_i64] <;> omega
   have h4 : i / 4 < s.length := by omega
   have w3 : IntKind.i64.wrap (s.getD (i / 4) default * 127) = s.getD (i / 4) default * 127 := by rw [wrap_i64] <;> omega
   have w5 : IntKind.i64.wrap (s.getD (i / 4) default * 127 * absZ (r.getD i default)) = s.getD (i / 4) default * 127 * absZ (r.getD i default) := by rw [wrap_i64] <;> omega
   have w6 : IntKind.i64.wrap (worstT r s i + s.getD (i / 4) default * 127 * absZ (r.getD i default)) = worstT r s (i + 1) := by rw [worstT, wrap_i64] <;> omega
   repeat (first | rw [ko] | rw [kr] | simp -dsimp -implicitDefEqProofs only [go_sem, rq1, hks, e6, e5, h2])
   refine dq_intro [(0, []), (1, []), (2, []), (3, []), (4, []), (5, []), (6, []), (7, []), (8, []), (9, []), (10, []), (11, [5]), (12, []), (13, []), (14, [])] (by kernel_rfl) ?_
   repeat (first | rw [ko] | rw [kr] | simp -dsimp -implicitDefEqProofs only [go_sem, rq1, rq7, h3, h4, w2, w3])
   refine wz_intro (abs_ok (by omega)) ?_
   rintro _ g' ⟨rfl, rfl⟩
   repeat (first | rw [ko] | rw [kr] | simp -dsimp -implicitDefEqProofs only [go_sem, rq1, w5, w6, w1])
   exact nx_keep (m - 1) (by omega) zsm ⟨i + 1, rfl, zsm, zsm, by omega⟩
  ·obtain rfl : i = r.length := by omega
   repeat (first | rw [ko] | rw [kr] | simp -dsimp -implicitDefEqProofs only [go_sem, rq1, hks, e6, e5, h2])
   exact ⟨le_up (H2.le.refl _) hn1, ⟨_, rfl⟩, by rw [worstI, h1]; rfl⟩
end Go.Bi
end
section
set_option maxRecDepth 20000
namespace Go.Bi
open Go.Proofs
open Go.Ai (wrap_i64 wrap_u8 Heap)
variable {W0 : World} {P : Program}
set_option maxHeartbeats 4000000
def lineB (m : LMatrix) (i : Nat) : Bool := decide (((m.rows.getD i default).length : Int) = m.width) && rowB (m.rows.getD i default) (m.scales.getD i default)
def matB (m : LMatrix) : Bool := widthB m.width && (decide ((m.rows.length : Int) ≤ 300) && (decide ((m.scales.length : Int) = m.rows.length) && (inI m.mul 0 65536 && (inI m.shift 0 24 && (List.range m.rows.length).all (lineB m)))))
def smallL (l : List (List Int)) : Prop := l.length ≤ 1048576 ∧ ∀ r ∈ l, r.length ≤ 1048576
def smallM (m : LMatrix) : Prop := smallL m.rows ∧ smallL m.scales
theorem smallL_at {l : List (List Int)} (h : smallL l) (i : Nat) : (l.getD i default).length ≤ 1048576 := by
 by_cases hi : i < l.length
 ·refine h.2 _ ?_
  rw [List.getD_eq_getElem?_getD, List.getElem?_eq_getElem hi]; exact List.getElem_mem hi
 ·rw [List.getD_eq_getElem?_getD, List.getElem?_eq_none (by omega)]; show 0 ≤ _; omega
theorem range_all {n : Nat} {p : Nat → Bool} (h : ∀ i, i < n → p i = true) : (List.range n).all p = true := by
 rw [List.all_eq_true]; intro i hi; exact h i (List.mem_range.1 hi)
theorem range_bad {n i : Nat} {p : Nat → Bool} (hi : i < n) (h : p i = false) : (List.range n).all p = false := by
 rw [List.all_eq_false]; exact ⟨i, List.mem_range.2 hi, by rw [h]; simp⟩
theorem implMatrix_ok {F : Nat → Adr} {m : LMatrix} {g : H2} (hsm : smallM m) : PW Tryz.prog W0 204 [.st (xMatrix F m)] g (fun y => y = .raw (.bool (matB m))) := by
 obtain ⟨⟨hr1, hr2⟩, hs1, hs2⟩ := id hsm
 refine PW.scalar ?_
 refine begins [[0], [1], [], [1], [1, 37, 38, 39], [1, 37, 38, 39], [1, 3, 4, 37, 38, 39], [], [1, 37, 38, 39], []] Tryz.func204 rfl (rs := [.tmp 2]) rfl rfl ?_
 intro wf
 repeat (first | rw [ko] | rw [kr] | simp -dsimp -implicitDefEqProofs only [go_sem, hoo])
 refine wz_intro isWidth_ok ?_
 rintro _ _ ⟨rfl, rfl⟩
 cases h1 : widthB m.width
 ·repeat (first | rw [ko] | rw [kr] | simp -dsimp -implicitDefEqProofs only [go_sem, rq1, hoo])
  exact ⟨le_push (H2.le.refl _), ⟨_, rfl⟩, by rw [matB, h1]; rfl⟩
 by_cases h2 : (m.rows.length : Int) > 300
 ·repeat (first | rw [ko] | rw [kr] | simp -dsimp -implicitDefEqProofs only [go_sem, rq1, hoo, h2])
  exact ⟨le_push (H2.le.refl _), ⟨_, rfl⟩, by rw [matB, h1, decide_eq_false (show ¬ (m.rows.length : Int) ≤ 300 by omega)]; rfl⟩
 have d2 : decide ((m.rows.length : Int) ≤ 300) = true := decide_eq_true (by omega)
 by_cases h3 : (m.scales.length : Int) = m.rows.length
 rotate_left
 ·have d3 : decide ((m.scales.length : Int) = m.rows.length) = false := decide_eq_false h3
  have e3 : decide (¬ (m.scales.length : Int) = m.rows.length) = true := decide_eq_true h3
  repeat (first | rw [ko] | rw [kr] | simp -dsimp -implicitDefEqProofs only [go_sem, rq1, hoo, h2, e3])
  exact ⟨le_push (H2.le.refl _), ⟨_, rfl⟩, by rw [matB, h1, d2, d3]; rfl⟩
 have d3 : decide ((m.scales.length : Int) = m.rows.length) = true := decide_eq_true h3
 have e3 : decide (¬ (m.scales.length : Int) = m.rows.length) = false := decide_eq_false (fun h => h h3)
 repeat (first | rw [ko] | rw [kr] | simp -dsimp -implicitDefEqProofs only [go_sem, rq1, hoo, h2, e3])
 refine wz_intro in_ok ?_
 rintro _ _ ⟨rfl, rfl⟩
 cases h4 : inI m.mul 0 65536
 ·repeat (first | rw [ko] | rw [kr] | simp -dsimp -implicitDefEqProofs only [go_sem, hoo])
  exact ⟨le_push (H2.le.refl _), ⟨_, rfl⟩, by rw [matB, h1, d2, d3, h4]; rfl⟩
 repeat (first | rw [ko] | rw [kr] | simp -dsimp -implicitDefEqProofs only [go_sem, rq1, hoo])
 refine wz_intro in_ok ?_
 rintro _ _ ⟨rfl, rfl⟩
 cases h5 : inI m.shift 0 24
 ·repeat (first | rw [ko] | rw [kr] | simp -dsimp -implicitDefEqProofs only [go_sem, hoo])
  exact ⟨le_push (H2.le.refl _), ⟨_, rfl⟩, by rw [matB, h1, d2, d3, h4, h5]; rfl⟩
 repeat (first | rw [ko] | rw [kr] | simp -dsimp -implicitDefEqProofs only [go_sem, rq1, hoo])
 have hB : matB m = (List.range m.rows.length).all (lineB m) := by rw [matB, h1, d2, d3, h4, h5]; rfl
 refine lz_keep [1, 37, 38] (fun mm e h' => ∃ (i : Nat), g.le h' ∧ hg h' (hn g .mk) .mk = some ⟨5, [.raw (.int .i64 m.width), .sl (F 1) 1 (rIntSS m.rows), .sl (F 2) 1 (rIntSS m.scales), .raw (.int .i64 m.mul), .raw (.int .i64 m.shift)]⟩ ∧ look e 39 .mk = .raw (.int .i64 (i : Nat)) ∧ mm + i = m.rows.length ∧ ∀ j, j < i → lineB m j = true) m.rows.length ?_ ?_
 ·exact ⟨0, le_push (H2.le.refl _), by simp -dsimp -implicitDefEqProofs only [go_sem, hoo], zsm, by omega, fun j hj => by omega⟩
 ·rintro mm e h' hks ⟨i, hle, row, ei, hm, hpre⟩
  simp -dsimp -implicitDefEqProofs only [go_sem, rq1] at hks
  by_cases q1 : (i : Int) < (m.rows.length : Int)
  ·have q2 : i < m.rows.length := by omega
   have q3 : i < m.scales.length := by omega
   have w1 := zwrs i (by omega)
   by_cases q4 : ((m.rows.getD i default).length : Int) = m.width
   ·have d4 : decide (((m.rows.getD i default).length : Int) = m.width) = true := decide_eq_true q4
    have e4 : decide (¬ ((m.rows.getD i default).length : Int) = m.width) = false := decide_eq_false (fun h => h q4)
    repeat (first | rw [ko] | rw [kr] | simp -dsimp -implicitDefEqProofs only [go_sem, rq1, hks, ei, q1, q2, q3, e4, row])
    refine pw_intro (rowOk_ok (smallL_at hsm.1 i) (smallL_at hsm.2 i)) ?_
    rintro _ n3 hn3 rfl
    cases q5 : rowB (m.rows.getD i default) (m.scales.getD i default)
    ·repeat (first | rw [ko] | rw [kr] | simp -dsimp -implicitDefEqProofs only [go_sem, rq1])
     exact ⟨le_up hle hn3, ⟨_, rfl⟩, by rw [hB, range_bad q2 (by rw [lineB, d4, q5]; rfl)]⟩
    ·repeat (first | rw [ko] | rw [kr] | simp -dsimp -implicitDefEqProofs only [go_sem, rq1, w1])
     refine nx_keep (mm - 1) (by omega) zsm ⟨i + 1, le_up hle hn3, by simp -dsimp -implicitDefEqProofs only [go_sem, row], zsm, by omega, fun j hj => ?_⟩
     by_cases hji : j = i
     ·subst hji; rw [lineB, d4, q5]; rfl
     ·exact hpre j (by omega)
   ·have d4 : decide (((m.rows.getD i default).length : Int) = m.width) = false := decide_eq_false q4
    have e4 : decide (¬ ((m.rows.getD i default).length : Int) = m.width) = true := decide_eq_true q4
    repeat (first | rw [ko] | rw [kr] | simp -dsimp -implicitDefEqProofs only [go_sem, rq1, hks, ei, q1, q2, e4, row])
    exact ⟨hle, ⟨_, rfl⟩, by rw [hB, range_bad q2 (by rw [lineB, d4]; rfl)]⟩
  ·repeat (first | rw [ko] | rw [kr] | simp -dsimp -implicitDefEqProofs only [go_sem, hks, ei, q1])
   exact ⟨hle, ⟨_, rfl⟩, by rw [hB, range_all fun j hj => hpre j (by omega)]⟩
theorem specMatrix_ok {F : Nat → Adr} {m : LMatrix} {g : H2} (hsm : smallM m) : PW Tryz.prog W0 207 [.st (xMatrix F m)] g (fun y => y = .raw (.bool (matB m))) := by
 obtain ⟨⟨hr1, hr2⟩, hs1, hs2⟩ := id hsm
 refine PW.scalar ?_
 refine begins [[0], [1], [], [1], [1, 3], [1, 3], [1, 3], [], []] Tryz.func207 rfl (rs := [.tmp 2]) rfl rfl ?_
 intro wf
 repeat (first | rw [ko] | rw [kr] | simp -dsimp -implicitDefEqProofs only [go_sem, hoo])
 refine wz_intro l05Width_ok ?_
 rintro _ _ ⟨rfl, rfl⟩
 cases h1 : widthB m.width
 ·repeat (first | rw [ko] | rw [kr] | simp -dsimp -implicitDefEqProofs only [go_sem, rq1, hoo])
  exact ⟨le_push (H2.le.refl _), ⟨_, rfl⟩, by rw [matB, h1]; rfl⟩
 by_cases h2 : (m.rows.length : Int) > 300
 ·repeat (first | rw [ko] | rw [kr] | simp -dsimp -implicitDefEqProofs only [go_sem, rq1, hoo, h2])
  exact ⟨le_push (H2.le.refl _), ⟨_, rfl⟩, by rw [matB, h1, decide_eq_false (show ¬ (m.rows.length : Int) ≤ 300 by omega)]; rfl⟩
 have d2 : decide ((m.rows.length : Int) ≤ 300) = true := decide_eq_true (by omega)
 by_cases h3 : (m.scales.length : Int) = m.rows.length
 rotate_left
 ·have d3 : decide ((m.scales.length : Int) = m.rows.length) = false := decide_eq_false h3
  have e3 : decide (¬ (m.scales.length : Int) = m.rows.length) = true := decide_eq_true h3
  repeat (first | rw [ko] | rw [kr] | simp -dsimp -implicitDefEqProofs only [go_sem, rq1, hoo, h2, e3])
  exact ⟨le_push (H2.le.refl _), ⟨_, rfl⟩, by rw [matB, h1, d2, d3]; rfl⟩
 have d3 : decide ((m.scales.length : Int) = m.rows.length) = true := decide_eq_true h3
 have e3 : decide (¬ (m.scales.length : Int) = m.rows.length) = false := decide_eq_false (fun h => h h3)
 repeat (first | rw [ko] | rw [kr] | simp -dsimp -implicitDefEqProofs only [go_sem, rq1, hoo, h2, e3])
 refine wz_intro l01In_ok ?_
 rintro _ _ ⟨rfl, rfl⟩
 cases h4 : inI m.mul 0 65536
 ·repeat (first | rw [ko] | rw [kr] | simp -dsimp -implicitDefEqProofs only [go_sem, hoo])
  exact ⟨le_push (H2.le.refl _), ⟨_, rfl⟩, by rw [matB, h1, d2, d3, h4]; rfl⟩
 repeat (first | rw [ko] | rw [kr] | simp -dsimp -implicitDefEqProofs only [go_sem, rq1, hoo])
 refine wz_intro l01In_ok ?_
 rintro _ _ ⟨rfl, rfl⟩
 cases h5 : inI m.shift 0 24
 ·repeat (first | rw [ko] | rw [kr] | simp -dsimp -implicitDefEqProofs only [go_sem, hoo])
  exact ⟨le_push (H2.le.refl _), ⟨_, rfl⟩, by rw [matB, h1, d2, d3, h4, h5]; rfl⟩
 repeat (first | rw [ko] | rw [kr] | simp -dsimp -implicitDefEqProofs only [go_sem, rq1, hoo])
 have hB : matB m = (List.range m.rows.length).all (lineB m) := by rw [matB, h1, d2, d3, h4, h5]; rfl
 refine lz_keep [1] (fun mm e h' => ∃ (i : Nat), g.le h' ∧ hg h' (hn g .mk) .mk = some ⟨5, [.raw (.int .i64 m.width), .sl (F 1) 1 (rIntSS m.rows), .sl (F 2) 1 (rIntSS m.scales), .raw (.int .i64 m.mul), .raw (.int .i64 m.shift)]⟩ ∧ look e 3 .mk = .raw (.int .i64 (i : Nat)) ∧ mm + i = m.rows.length ∧ ∀ j, j < i → lineB m j = true) m.rows.length ?_ ?_
 ·exact ⟨0, le_push (H2.le.refl _), by simp -dsimp -implicitDefEqProofs only [go_sem, hoo], zsm, by omega, fun j hj => by omega⟩
 ·rintro mm e h' hks ⟨i, hle, row, ei, hm, hpre⟩
  simp -dsimp -implicitDefEqProofs only [go_sem] at hks
  by_cases q1 : (i : Int) < (m.rows.length : Int)
  ·have q2 : i < m.rows.length := by omega
   have q3 : i < m.scales.length := by omega
   have w1 := zwrs i (by omega)
   by_cases q4 : ((m.rows.getD i default).length : Int) = m.width
   ·have d4 : decide (((m.rows.getD i default).length : Int) = m.width) = true := decide_eq_true q4
    have e4 : decide (¬ ((m.rows.getD i default).length : Int) = m.width) = false := decide_eq_false (fun h => h q4)
    repeat (first | rw [ko] | rw [kr] | simp -dsimp -implicitDefEqProofs only [go_sem, rq1, hks, ei, q1, row])
    refine dq_intro [(0, []), (1, []), (2, []), (3, []), (4, []), (5, []), (6, []), (7, []), (8, []), (9, []), (10, []), (11, []), (12, []), (13, []), (14, []), (15, []), (16, []), (17, []), (18, []), (19, []), (20, []), (21, []), (22, [])] (by kernel_rfl) ?_
    repeat (first | rw [ko] | rw [kr] | simp -dsimp -implicitDefEqProofs only [go_sem, rq1, q2, q3, e4, row])
    refine pw_intro (l05Fits_ok (smallL_at hsm.1 i) (smallL_at hsm.2 i)) ?_
    rintro _ n3 hn3 rfl
    cases q5 : rowB (m.rows.getD i default) (m.scales.getD i default)
    ·repeat (first | rw [ko] | rw [kr] | simp -dsimp -implicitDefEqProofs only [go_sem, rq1])
     exact ⟨le_up hle hn3, ⟨_, rfl⟩, by rw [hB, range_bad q2 (by rw [lineB, d4, q5]; rfl)]⟩
    ·repeat (first | rw [ko] | rw [kr] | simp -dsimp -implicitDefEqProofs only [go_sem, rq1, w1])
     refine nx_keep (mm - 1) (by omega) zsm ⟨i + 1, le_up hle hn3, by simp -dsimp -implicitDefEqProofs only [go_sem, row], zsm, by omega, fun j hj => ?_⟩
     by_cases hji : j = i
     ·subst hji; rw [lineB, d4, q5]; rfl
     ·exact hpre j (by omega)
   ·have d4 : decide (((m.rows.getD i default).length : Int) = m.width) = false := decide_eq_false q4
    have e4 : decide (¬ ((m.rows.getD i default).length : Int) = m.width) = true := decide_eq_true q4
    repeat (first | rw [ko] | rw [kr] | simp -dsimp -implicitDefEqProofs only [go_sem, rq1, hks, ei, q1, row])
    refine dq_intro [(0, []), (1, []), (2, []), (3, []), (4, []), (5, []), (6, []), (7, []), (8, []), (9, []), (10, []), (11, []), (12, []), (13, []), (14, []), (15, []), (16, []), (17, []), (18, []), (19, []), (20, []), (21, []), (22, [])] (by kernel_rfl) ?_
    repeat (first | rw [ko] | rw [kr] | simp -dsimp -implicitDefEqProofs only [go_sem, rq1, q2, e4, row])
    exact ⟨hle, ⟨_, rfl⟩, by rw [hB, range_bad q2 (by rw [lineB, d4]; rfl)]⟩
  ·repeat (first | rw [ko] | rw [kr] | simp -dsimp -implicitDefEqProofs only [go_sem, rq1, hks, ei, q1, row])
   exact ⟨hle, ⟨_, rfl⟩, by rw [hB, range_all fun j hj => hpre j (by omega)]⟩
end Go.Bi
end
