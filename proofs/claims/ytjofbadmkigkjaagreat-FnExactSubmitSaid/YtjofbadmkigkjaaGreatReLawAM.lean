/- Own lemmas that the theorem of this claim needs: the abstract machine and walks of functions. -/
import Derived.Test.YtjofbadmkigkjaaGreatReLawAL
set_option linter.unusedSimpArgs false
set_option linter.unusedVariables false
open Nat renaming reduceBEq → rq1, reduceAdd → rq2, reduceLeDiff → rq3, reduceMul → rq4
open Int renaming reduceLE → rq5, reduceLT → rq6, reduceBEq → rq7
section
set_option maxRecDepth 20000
namespace Go.Bi
open Go.Proofs
open Go.Ai (wrap_i64 wrap_u8)
variable {W0 : World} {P : Program}
set_option maxHeartbeats 8000000
theorem cloneI_new {f : Adr} {zs : List Int} {g : H2} (hs : zs.length ≤ 1048576) : NewT Tryz.prog W0 134 [.sl f 1 (ints zs)] g (.l 1 (ints zs)) := (cloneI_ok hs).mono fun v h' ⟨h1, h2⟩ => ⟨h1, OwnI.tree h2⟩
theorem Gr.setB {N b : Nat} {g : H2} {k : OB} {v : X} {z n : Nat} {ts : List T} {bs : List Nat} (gr : Gr N g v z n ts bs) (hb : b < N) : Gr N (g.set b k) v z n ts bs := by
 obtain ⟨cs, ⟨e1, e2⟩, t1, b1, d1⟩ := gr
 refine ⟨cs, ⟨e1, e2.imp_right ?_⟩, t1.frame fun q hq => ?_, by simp only [hn_set]; exact b1, d1⟩
 ·rintro ⟨q, f1, f2, f3, f4⟩
  exact ⟨q, f1, f2, by simp only [hn_set]; exact f3, by rw [hg_set, show (q == b) = false by simp; omega]; exact f4⟩
 ·have := b1.2 q hq
  simp only [H2.set]; rw [if_neg (by omega)]
theorem Bl.perm {N M : Nat} {a b : List Nat} (l : Bl N M a) (p : a.Perm b) : Bl N M b := ⟨p.nodup_iff.1 l.1, fun x hx => l.2 x (p.mem_iff.2 hx)⟩
theorem cloneModel_new {F : Nat → Adr} {c : LModel} {g : H2} (hs : szModel c ≤ 1048576) : NewS Tryz.prog W0 50 [.st (xModel F c)] g (eModel c) := by
 have hsz : szModel c = (c.merges.length + sumN szMerge c.merges) + szIntSS c.embed + (c.layers.length + sumN szLayer c.layers) + c.gainEnd.length + szMatrix c.head + (szIntSS c.turns.cos + szIntSS c.turns.sin) := rfl
 refine begins [[0], [1, 2], [1, 2, 3], [1, 2, 3], [1, 2, 3], [1, 2, 3], [2, 3, 35, 36, 37], [2, 3, 35, 36, 37], [2, 3, 5, 35, 36, 37], [2, 3, 35, 36, 37], [2, 3]] Tryz.func50 rfl (rs := [.cell 2 33]) rfl rfl ?_
 intro wf
 have ne1 : (hn g .mk == hn g .mk + 1) = false := by simp
 have ne2 : (hn g .mk == hn g .mk + 1 + 1) = false := zne
 have ne3 : (hn g .mk + 1 == hn g .mk + 1 + 1) = false := by simp
 have ne4 : (hn g .mk + 1 == hn g .mk) = false := by simp
 have ne5 : (hn g .mk + 1 + 1 == hn g .mk) = false := zne
 have ne6 : (hn g .mk + 1 + 1 == hn g .mk + 1) = false := by simp
 repeat (first | rw [ko] | rw [kr] | simp -dsimp -implicitDefEqProofs only [go_sem, rq1, rq2, hoo, ne1])
 refine dq_intro [(0, []), (1, []), (3, []), (4, []), (6, []), (7, []), (9, []), (10, []), (2, [4, 7, 10]), (12, []), (5, [7, 10]), (8, [10]), (11, []), (13, []), (14, []), (15, []), (16, []), (17, []), (18, []), (19, [])] (by kernel_rfl) ?_
 repeat (first | rw [ko] | rw [kr] | simp -dsimp -implicitDefEqProofs only [go_sem, rq1, hoo, ne1, ne2])
 refine wz_intro (cloneMerges_new (by omega)) ?_
 rintro sm gm ⟨lm, bm, om, blm⟩
 have cm := OT.cell om
 have nm := lm.1
 try simp only [hn_push, hn_set] at nm blm
 have rm_0 := lm.2 (hn g .mk) zau
 have rm_1 := lm.2 (hn g .mk + 1) zau
 have rm_2 := lm.2 (hn g .mk + 1 + 1) zau
 simp -dsimp -implicitDefEqProofs only [go_sem, hoo, ne1, ne2, ne3, hoo, hoo, hoo] at rm_0 rm_1 rm_2
 have Lm : g.le gm := H2.le.trans zale lm
 try (rw [kq]; refine ⟨by simp -dsimp -implicitDefEqProofs only [go_sem, rq1, hoo, rm_0], ?_⟩)
 repeat (first | rw [ko] | rw [kr] | simp -dsimp -implicitDefEqProofs only [go_sem, rq1, hoo])
 refine wz_intro (cloneLists_new (by omega)) ?_
 rintro se ge ⟨le, be, oe, ble⟩
 have ce := OT.cell oe
 have ne := le.1
 try simp only [hn_push, hn_set] at ne ble
 have re_0 := le.2 (hn g .mk) zau
 have re_1 := le.2 (hn g .mk + 1) zau
 have re_2 := le.2 (hn g .mk + 1 + 1) zau
 simp -dsimp -implicitDefEqProofs only [go_sem, rm_0, rm_1, rm_2] at re_0 re_1 re_2
 have Le : g.le ge := H2.le.trans zale le
 have Ke : ∀ {q a b : Nat}, a ≤ q ∧ q < b → hn g .mk + 1 + 1 + 1 ≤ a → b ≤ hn gm .mk → ge.get q = gm.get q := fun {q a b} h1 h2 h3 => by
  exact (show ge.get q = _ from le.2 q zau).trans zfz
 replace om := om.frame fun q hq => Ke (blm.2 q hq) (by omega) (by omega)
 try (rw [kq]; refine ⟨by simp -dsimp -implicitDefEqProofs only [go_sem, rq1, hoo, re_0], ?_⟩)
 repeat (first | rw [ko] | rw [kr] | simp -dsimp -implicitDefEqProofs only [go_sem, rq1, hoo])
 refine wz_intro (cloneI_new (by omega)) ?_
 rintro sg gg ⟨lg, bg, og, blg⟩
 have cg := OT.cell og
 have ng := lg.1
 try simp only [hn_push, hn_set] at ng blg
 have rg_0 := lg.2 (hn g .mk) zau
 have rg_1 := lg.2 (hn g .mk + 1) zau
 have rg_2 := lg.2 (hn g .mk + 1 + 1) zau
 simp -dsimp -implicitDefEqProofs only [go_sem, re_0, re_1, re_2] at rg_0 rg_1 rg_2
 have Lg : g.le gg := H2.le.trans zale lg
 have Kg : ∀ {q a b : Nat}, a ≤ q ∧ q < b → hn g .mk + 1 + 1 + 1 ≤ a → b ≤ hn ge .mk → gg.get q = ge.get q := fun {q a b} h1 h2 h3 => by
  exact (show gg.get q = _ from lg.2 q zau).trans zfz
 replace om := om.frame fun q hq => Kg (blm.2 q hq) (by omega) (by omega)
 replace oe := oe.frame fun q hq => Kg (ble.2 q hq) (by omega) (by omega)
 try (rw [kq]; refine ⟨by simp -dsimp -implicitDefEqProofs only [go_sem, rq1, hoo, rg_0], ?_⟩)
 repeat (first | rw [ko] | rw [kr] | simp -dsimp -implicitDefEqProofs only [go_sem, rq1, hoo])
 refine wz_intro (cloneMatrix_new (F := fun j => F (j + 7)) (c := c.head) (by omega)) ?_
 rintro _ gh ⟨lh, ysh, bbh, rfl, ooh, blh⟩
 obtain ⟨bha, sha, bhb, shb, rfl, rfl, oha, ohb⟩ := invMatrix ooh
 have cha := OT.cell oha
 have chb := OT.cell ohb
 have nh := lh.1
 try simp only [hn_push, hn_set] at nh blh
 have blha := blh.split.1
 have blhb := blh.split.2.1
 have rh_0 := lh.2 (hn g .mk) zau
 have rh_1 := lh.2 (hn g .mk + 1) zau
 have rh_2 := lh.2 (hn g .mk + 1 + 1) zau
 simp -dsimp -implicitDefEqProofs only [go_sem, rg_0, rg_1, rg_2] at rh_0 rh_1 rh_2
 have Lh : g.le gh := H2.le.trans zale lh
 have Kh : ∀ {q a b : Nat}, a ≤ q ∧ q < b → hn g .mk + 1 + 1 + 1 ≤ a → b ≤ hn gg .mk → gh.get q = gg.get q := fun {q a b} h1 h2 h3 => by
  exact (show gh.get q = _ from lh.2 q zau).trans zfz
 replace om := om.frame fun q hq => Kh (blm.2 q hq) (by omega) (by omega)
 replace oe := oe.frame fun q hq => Kh (ble.2 q hq) (by omega) (by omega)
 replace og := og.frame fun q hq => Kh (blg.2 q hq) (by omega) (by omega)
 try (rw [kq]; refine ⟨zsm, ?_⟩)
 repeat (first | rw [ko] | rw [kr] | simp -dsimp -implicitDefEqProofs only [go_sem, rq1, rq2, hoo, rh_2, cm, ce, cg, cha, chb])
 refine dq_intro [(0, []), (1, []), (2, []), (4, []), (5, []), (6, []), (3, [6]), (7, []), (8, []), (9, []), (10, [])] (by kernel_rfl) ?_
 repeat (first | rw [ko] | rw [kr] | simp -dsimp -implicitDefEqProofs only [go_sem, rq1, rq2, hoo, ne2, rh_0])
 refine wz_intro (cloneLists_new (by omega)) ?_
 rintro sx gx ⟨lx, bx, ox, blx⟩
 have cx := OT.cell ox
 have nx := lx.1
 try simp only [hn_set] at nx blx
 have rx_0 := lx.2 (hn g .mk) zau
 have rx_1 := lx.2 (hn g .mk + 1) zau
 have rx_2 := lx.2 (hn g .mk + 1 + 1) zau
 simp -dsimp -implicitDefEqProofs only [go_sem, hoo, ne2, ne3, rh_0, rh_1] at rx_0 rx_1 rx_2
 have Lx : g.le gx := H2.le.trans zale lx
 have Kx : ∀ {q a b : Nat}, a ≤ q ∧ q < b → hn g .mk + 1 + 1 + 1 ≤ a → b ≤ hn gh .mk → gx.get q = gh.get q := fun {q a b} h1 h2 h3 => by
  exact (show gx.get q = _ from lx.2 q zau).trans zfz
 replace om := om.frame fun q hq => Kx (blm.2 q hq) (by omega) (by omega)
 replace oe := oe.frame fun q hq => Kx (ble.2 q hq) (by omega) (by omega)
 replace og := og.frame fun q hq => Kx (blg.2 q hq) (by omega) (by omega)
 replace oha := oha.frame fun q hq => Kx (blha.2 q hq) (by omega) (by omega)
 replace ohb := ohb.frame fun q hq => Kx (blhb.2 q hq) (by omega) (by omega)
 try (rw [kq]; refine ⟨by simp -dsimp -implicitDefEqProofs only [go_sem, hoo, rx_0], ?_⟩)
 repeat (first | rw [ko] | rw [kr] | simp -dsimp -implicitDefEqProofs only [go_sem, hoo])
 refine wz_intro (cloneLists_new (by omega)) ?_
 rintro sw gw ⟨lw, bw, ow, blw⟩
 have cw := OT.cell ow
 have nw := lw.1
 try simp only [hn_push, hn_set] at nw blw
 have rw_0 := lw.2 (hn g .mk) zau
 have rw_1 := lw.2 (hn g .mk + 1) zau
 have rw_2 := lw.2 (hn g .mk + 1 + 1) zau
 simp -dsimp -implicitDefEqProofs only [go_sem, rx_0, rx_1, rx_2] at rw_0 rw_1 rw_2
 have Lw : g.le gw := H2.le.trans zale lw
 have Kw : ∀ {q a b : Nat}, a ≤ q ∧ q < b → hn g .mk + 1 + 1 + 1 ≤ a → b ≤ hn gx .mk → gw.get q = gx.get q := fun {q a b} h1 h2 h3 => by
  exact (show gw.get q = _ from lw.2 q zau).trans zfz
 replace om := om.frame fun q hq => Kw (blm.2 q hq) (by omega) (by omega)
 replace oe := oe.frame fun q hq => Kw (ble.2 q hq) (by omega) (by omega)
 replace og := og.frame fun q hq => Kw (blg.2 q hq) (by omega) (by omega)
 replace oha := oha.frame fun q hq => Kw (blha.2 q hq) (by omega) (by omega)
 replace ohb := ohb.frame fun q hq => Kw (blhb.2 q hq) (by omega) (by omega)
 replace ox := ox.frame fun q hq => Kw (blx.2 q hq) (by omega) (by omega)
 try (rw [kq]; refine ⟨zsm, ?_⟩)
 repeat (first | rw [ko] | rw [kr] | simp -dsimp -implicitDefEqProofs only [go_sem, rq1, rq2, hoo, ne2, rw_0, rw_2, cx, cw])
 refine lz_keep [2, 3, 35, 36] (fun m s h' => ∃ (i : Nat) (v : X) (bs : List Nat), look s 37 .mk = .raw (.int .i64 (i : Nat)) ∧ m + i = c.layers.length ∧ hn gw .mk ≤ hn h' .mk ∧ (∀ b, b < hn gw .mk → b ≠ hn g .mk + 1 + 1 → hg h' b .mk = hg gw b .mk) ∧ hg h' (hn g .mk + 1 + 1) .mk = some ⟨14, [.raw (.int .i64 c.dim), .raw (.int .i64 c.heads), .raw (.int .i64 c.context), sm, se, v, sg, .raw (.int .i64 c.head.width), sha, shb, .raw (.int .i64 c.head.mul), .raw (.int .i64 c.head.shift), sx, sw]⟩ ∧ Gr (hn gw .mk) h' v 32 i (((c.layers.take i).map eLayer).flatten) bs) c.layers.length ?_ ?_
 ·refine ⟨0, .raw (.slice none 0 0), [], zsm, by omega, by simp only [hn_set]; omega, fun b h1 h2 => ?_, by simp -dsimp -implicitDefEqProofs only [go_sem, hoo] <;> rfl, Gr.nil⟩
  rw [hg_set, show (b == hn g .mk + 1 + 1) = false by simp [h2]]; rfl
 rintro m s h' hks ⟨i, v, bs, ei, hm, hnn, fr, r3, gr⟩
 simp -dsimp -implicitDefEqProofs only [go_sem, rq1] at hks
 have hv := Gr.cell gr
 by_cases q1 : (i : Int) < (c.layers.length : Int)
 ·have q2 : i < c.layers.length := by omega
  have w1 := wrap_succ q2 (by omega)
  have ne7 : ((hn g .mk + 1 + 1) == hn h' .mk) = false := zne
  have ne8 : (hn h' .mk == (hn g .mk + 1 + 1)) = false := zne
  have hsl : szLayer (c.layers.getD i default) ≤ sumN szLayer c.layers := sumN_mem (f := szLayer) (getD_mem q2)
  have hszL : szLayer (c.layers.getD i default) = (c.layers.getD i default).gain1.length + szMatrix (c.layers.getD i default).q + szMatrix (c.layers.getD i default).k + szMatrix (c.layers.getD i default).v + szMatrix (c.layers.getD i default).o + (c.layers.getD i default).gain2.length + szMatrix (c.layers.getD i default).up + szMatrix (c.layers.getD i default).down := rfl
  repeat (first | rw [ko] | rw [kr] | simp -dsimp -implicitDefEqProofs only [go_sem, rq1, rq2, rq3, hks, ei, q1, q2, hoo])
  refine dq_intro [(0, []), (1, []), (2, []), (3, []), (5, []), (6, []), (8, []), (9, []), (11, []), (12, []), (14, []), (15, []), (17, []), (18, []), (20, []), (21, []), (23, []), (24, []), (4, [1, 6, 9, 12, 15, 18, 21, 24]), (7, [1, 9, 12, 15, 18, 21, 24]), (10, [1, 12, 15, 18, 21, 24]), (13, [1, 15, 18, 21, 24]), (16, [1, 18, 21, 24]), (19, [1, 21, 24]), (22, [1, 24]), (25, [1]), (26, []), (27, [1]), (28, []), (29, []), (30, [])] (by kernel_rfl) ?_
  repeat (first | rw [ko] | rw [kr] | simp -dsimp -implicitDefEqProofs only [go_sem, rq1, hoo, ne7, r3])
  refine wz_intro (cloneI_new (by omega)) ?_
  rintro sla gla ⟨lla, bla, ola, blla⟩
  have cla := OT.cell ola
  have nla := lla.1
  try simp only [hn_push] at nla blla
  have rla_0 := lla.2 (hn g .mk + 1 + 1) zau
  have rla_1 := lla.2 (hn h' .mk) zau
  simp -dsimp -implicitDefEqProofs only [go_sem, hoo, ne7, r3, hoo] at rla_0 rla_1
  have Lla : h'.le gla := H2.le.trans zale lla
  try (rw [kq]; refine ⟨by simp -dsimp -implicitDefEqProofs only [go_sem, rq1, hoo, rla_0, rla_1], ?_⟩)
  repeat (first | rw [ko] | rw [kr] | simp -dsimp -implicitDefEqProofs only [go_sem, rq1, hoo])
  refine wz_intro (cloneMatrix_new (F := (fun j => under (under (F 5) i) (j + 1))) (c := (c.layers.getD i default).q) (by omega)) ?_
  rintro _ glq ⟨llq, yslq, bblq, rfl, oolq, bllq⟩
  obtain ⟨blqa, slqa, blqb, slqb, rfl, rfl, olqa, olqb⟩ := invMatrix oolq
  have clqa := OT.cell olqa
  have clqb := OT.cell olqb
  have nlq := llq.1
  try simp only [hn_push, hn_set] at nlq bllq
  have bllqa := bllq.split.1
  have bllqb := bllq.split.2.1
  have rlq_0 := llq.2 (hn g .mk + 1 + 1) zau
  have rlq_1 := llq.2 (hn h' .mk) zau
  simp -dsimp -implicitDefEqProofs only [go_sem, rla_0, rla_1] at rlq_0 rlq_1
  have Llq : h'.le glq := H2.le.trans zale llq
  have Klq : ∀ {q a b : Nat}, a ≤ q ∧ q < b → hn h' .mk + 1 ≤ a → b ≤ hn gla .mk → glq.get q = gla.get q := fun {q a b} h1 h2 h3 => by
   exact (show glq.get q = _ from llq.2 q zau).trans zfz
  replace ola := ola.frame fun q hq => Klq (blla.2 q hq) (by omega) (by omega)
  try (rw [kq]; refine ⟨by simp -dsimp -implicitDefEqProofs only [go_sem, rq1, hoo, rlq_0, rlq_1], ?_⟩)
  repeat (first | rw [ko] | rw [kr] | simp -dsimp -implicitDefEqProofs only [go_sem, rq1, hoo])
  refine wz_intro (cloneMatrix_new (F := (fun j => under (under (F 5) i) (j + 6))) (c := (c.layers.getD i default).k) (by omega)) ?_
  rintro _ glk ⟨llk, yslk, bblk, rfl, oolk, bllk⟩
  obtain ⟨blka, slka, blkb, slkb, rfl, rfl, olka, olkb⟩ := invMatrix oolk
  have clka := OT.cell olka
  have clkb := OT.cell olkb
  have nlk := llk.1
  try simp only [hn_push, hn_set] at nlk bllk
  have bllka := bllk.split.1
  have bllkb := bllk.split.2.1
  have rlk_0 := llk.2 (hn g .mk + 1 + 1) zau
  have rlk_1 := llk.2 (hn h' .mk) zau
  simp -dsimp -implicitDefEqProofs only [go_sem, rlq_0, rlq_1] at rlk_0 rlk_1
  have Llk : h'.le glk := H2.le.trans zale llk
  have Klk : ∀ {q a b : Nat}, a ≤ q ∧ q < b → hn h' .mk + 1 ≤ a → b ≤ hn glq .mk → glk.get q = glq.get q := fun {q a b} h1 h2 h3 => by
   exact (show glk.get q = _ from llk.2 q zau).trans zfz
  replace ola := ola.frame fun q hq => Klk (blla.2 q hq) (by omega) (by omega)
  replace olqa := olqa.frame fun q hq => Klk (bllqa.2 q hq) (by omega) (by omega)
  replace olqb := olqb.frame fun q hq => Klk (bllqb.2 q hq) (by omega) (by omega)
  try (rw [kq]; refine ⟨by simp -dsimp -implicitDefEqProofs only [go_sem, rq1, hoo, rlk_0, rlk_1], ?_⟩)
  repeat (first | rw [ko] | rw [kr] | simp -dsimp -implicitDefEqProofs only [go_sem, rq1, hoo])
  refine wz_intro (cloneMatrix_new (F := (fun j => under (under (F 5) i) (j + 11))) (c := (c.layers.getD i default).v) (by omega)) ?_
  rintro _ glv ⟨llv, yslv, bblv, rfl, oolv, bllv⟩
  obtain ⟨blva, slva, blvb, slvb, rfl, rfl, olva, olvb⟩ := invMatrix oolv
  have clva := OT.cell olva
  have clvb := OT.cell olvb
  have nlv := llv.1
  try simp only [hn_push, hn_set] at nlv bllv
  have bllva := bllv.split.1
  have bllvb := bllv.split.2.1
  have rlv_0 := llv.2 (hn g .mk + 1 + 1) zau
  have rlv_1 := llv.2 (hn h' .mk) zau
  simp -dsimp -implicitDefEqProofs only [go_sem, rlk_0, rlk_1] at rlv_0 rlv_1
  have Llv : h'.le glv := H2.le.trans zale llv
  have Klv : ∀ {q a b : Nat}, a ≤ q ∧ q < b → hn h' .mk + 1 ≤ a → b ≤ hn glk .mk → glv.get q = glk.get q := fun {q a b} h1 h2 h3 => by
   exact (show glv.get q = _ from llv.2 q zau).trans zfz
  replace ola := ola.frame fun q hq => Klv (blla.2 q hq) (by omega) (by omega)
  replace olqa := olqa.frame fun q hq => Klv (bllqa.2 q hq) (by omega) (by omega)
  replace olqb := olqb.frame fun q hq => Klv (bllqb.2 q hq) (by omega) (by omega)
  replace olka := olka.frame fun q hq => Klv (bllka.2 q hq) (by omega) (by omega)
  replace olkb := olkb.frame fun q hq => Klv (bllkb.2 q hq) (by omega) (by omega)
  try (rw [kq]; refine ⟨by simp -dsimp -implicitDefEqProofs only [go_sem, rq1, hoo, rlv_0, rlv_1], ?_⟩)
  repeat (first | rw [ko] | rw [kr] | simp -dsimp -implicitDefEqProofs only [go_sem, rq1, hoo])
  refine wz_intro (cloneMatrix_new (F := (fun j => under (under (F 5) i) (j + 16))) (c := (c.layers.getD i default).o) (by omega)) ?_
  rintro _ glo ⟨llo, yslo, bblo, rfl, oolo, bllo⟩
  obtain ⟨bloa, sloa, blob, slob, rfl, rfl, oloa, olob⟩ := invMatrix oolo
  have cloa := OT.cell oloa
  have clob := OT.cell olob
  have nlo := llo.1
  try simp only [hn_push, hn_set] at nlo bllo
  have blloa := bllo.split.1
  have bllob := bllo.split.2.1
  have rlo_0 := llo.2 (hn g .mk + 1 + 1) zau
  have rlo_1 := llo.2 (hn h' .mk) zau
  simp -dsimp -implicitDefEqProofs only [go_sem, rlv_0, rlv_1] at rlo_0 rlo_1
  have Llo : h'.le glo := H2.le.trans zale llo
  have Klo : ∀ {q a b : Nat}, a ≤ q ∧ q < b → hn h' .mk + 1 ≤ a → b ≤ hn glv .mk → glo.get q = glv.get q := fun {q a b} h1 h2 h3 => by
   exact (show glo.get q = _ from llo.2 q zau).trans zfz
  replace ola := ola.frame fun q hq => Klo (blla.2 q hq) (by omega) (by omega)
  replace olqa := olqa.frame fun q hq => Klo (bllqa.2 q hq) (by omega) (by omega)
  replace olqb := olqb.frame fun q hq => Klo (bllqb.2 q hq) (by omega) (by omega)
  replace olka := olka.frame fun q hq => Klo (bllka.2 q hq) (by omega) (by omega)
  replace olkb := olkb.frame fun q hq => Klo (bllkb.2 q hq) (by omega) (by omega)
  replace olva := olva.frame fun q hq => Klo (bllva.2 q hq) (by omega) (by omega)
  replace olvb := olvb.frame fun q hq => Klo (bllvb.2 q hq) (by omega) (by omega)
  try (rw [kq]; refine ⟨by simp -dsimp -implicitDefEqProofs only [go_sem, rq1, hoo, rlo_0, rlo_1], ?_⟩)
  repeat (first | rw [ko] | rw [kr] | simp -dsimp -implicitDefEqProofs only [go_sem, rq1, hoo])
  refine wz_intro (cloneI_new (by omega)) ?_
  rintro slb glb ⟨llb, blb, olb, bllb⟩
  have clb := OT.cell olb
  have nlb := llb.1
  try simp only [hn_push, hn_set] at nlb bllb
  have rlb_0 := llb.2 (hn g .mk + 1 + 1) zau
  have rlb_1 := llb.2 (hn h' .mk) zau
  simp -dsimp -implicitDefEqProofs only [go_sem, rlo_0, rlo_1] at rlb_0 rlb_1
  have Llb : h'.le glb := H2.le.trans zale llb
  have Klb : ∀ {q a b : Nat}, a ≤ q ∧ q < b → hn h' .mk + 1 ≤ a → b ≤ hn glo .mk → glb.get q = glo.get q := fun {q a b} h1 h2 h3 => by
   exact (show glb.get q = _ from llb.2 q zau).trans zfz
  replace ola := ola.frame fun q hq => Klb (blla.2 q hq) (by omega) (by omega)
  replace olqa := olqa.frame fun q hq => Klb (bllqa.2 q hq) (by omega) (by omega)
  replace olqb := olqb.frame fun q hq => Klb (bllqb.2 q hq) (by omega) (by omega)
  replace olka := olka.frame fun q hq => Klb (bllka.2 q hq) (by omega) (by omega)
  replace olkb := olkb.frame fun q hq => Klb (bllkb.2 q hq) (by omega) (by omega)
  replace olva := olva.frame fun q hq => Klb (bllva.2 q hq) (by omega) (by omega)
  replace olvb := olvb.frame fun q hq => Klb (bllvb.2 q hq) (by omega) (by omega)
  replace oloa := oloa.frame fun q hq => Klb (blloa.2 q hq) (by omega) (by omega)
  replace olob := olob.frame fun q hq => Klb (bllob.2 q hq) (by omega) (by omega)
  try (rw [kq]; refine ⟨by simp -dsimp -implicitDefEqProofs only [go_sem, rq1, hoo, rlb_0, rlb_1], ?_⟩)
  repeat (first | rw [ko] | rw [kr] | simp -dsimp -implicitDefEqProofs only [go_sem, rq1, hoo])
  refine wz_intro (cloneMatrix_new (F := (fun j => under (under (F 5) i) (j + 22))) (c := (c.layers.getD i default).up) (by omega)) ?_
  rintro _ glu ⟨llu, yslu, bblu, rfl, oolu, bllu⟩
  obtain ⟨blua, slua, blub, slub, rfl, rfl, olua, olub⟩ := invMatrix oolu
  have clua := OT.cell olua
  have club := OT.cell olub
  have nlu := llu.1
  try simp only [hn_push, hn_set] at nlu bllu
  have bllua := bllu.split.1
  have bllub := bllu.split.2.1
  have rlu_0 := llu.2 (hn g .mk + 1 + 1) zau
  have rlu_1 := llu.2 (hn h' .mk) zau
  simp -dsimp -implicitDefEqProofs only [go_sem, rlb_0, rlb_1] at rlu_0 rlu_1
  have Llu : h'.le glu := H2.le.trans zale llu
  have Klu : ∀ {q a b : Nat}, a ≤ q ∧ q < b → hn h' .mk + 1 ≤ a → b ≤ hn glb .mk → glu.get q = glb.get q := fun {q a b} h1 h2 h3 => by
   exact (show glu.get q = _ from llu.2 q zau).trans zfz
  replace ola := ola.frame fun q hq => Klu (blla.2 q hq) (by omega) (by omega)
  replace olqa := olqa.frame fun q hq => Klu (bllqa.2 q hq) (by omega) (by omega)
  replace olqb := olqb.frame fun q hq => Klu (bllqb.2 q hq) (by omega) (by omega)
  replace olka := olka.frame fun q hq => Klu (bllka.2 q hq) (by omega) (by omega)
  replace olkb := olkb.frame fun q hq => Klu (bllkb.2 q hq) (by omega) (by omega)
  replace olva := olva.frame fun q hq => Klu (bllva.2 q hq) (by omega) (by omega)
  replace olvb := olvb.frame fun q hq => Klu (bllvb.2 q hq) (by omega) (by omega)
  replace oloa := oloa.frame fun q hq => Klu (blloa.2 q hq) (by omega) (by omega)
  replace olob := olob.frame fun q hq => Klu (bllob.2 q hq) (by omega) (by omega)
  replace olb := olb.frame fun q hq => Klu (bllb.2 q hq) (by omega) (by omega)
  try (rw [kq]; refine ⟨by simp -dsimp -implicitDefEqProofs only [go_sem, rq1, hoo, rlu_0, rlu_1], ?_⟩)
  repeat (first | rw [ko] | rw [kr] | simp -dsimp -implicitDefEqProofs only [go_sem, rq1, hoo])
  refine wz_intro (cloneMatrix_new (F := (fun j => under (under (F 5) i) (j + 27))) (c := (c.layers.getD i default).down) (by omega)) ?_
  rintro _ gld ⟨lld, ysld, bbld, rfl, oold, blld⟩
  obtain ⟨blda, slda, bldb, sldb, rfl, rfl, olda, oldb⟩ := invMatrix oold
  have clda := OT.cell olda
  have cldb := OT.cell oldb
  have nld := lld.1
  try simp only [hn_push, hn_set] at nld blld
  have bllda := blld.split.1
  have blldb := blld.split.2.1
  have rld_0 := lld.2 (hn g .mk + 1 + 1) zau
  have rld_1 := lld.2 (hn h' .mk) zau
  simp -dsimp -implicitDefEqProofs only [go_sem, rlu_0, rlu_1] at rld_0 rld_1
  have Lld : h'.le gld := H2.le.trans zale lld
  have Kld : ∀ {q a b : Nat}, a ≤ q ∧ q < b → hn h' .mk + 1 ≤ a → b ≤ hn glu .mk → gld.get q = glu.get q := fun {q a b} h1 h2 h3 => by
   exact (show gld.get q = _ from lld.2 q zau).trans zfz
  replace ola := ola.frame fun q hq => Kld (blla.2 q hq) (by omega) (by omega)
  replace olqa := olqa.frame fun q hq => Kld (bllqa.2 q hq) (by omega) (by omega)
  replace olqb := olqb.frame fun q hq => Kld (bllqb.2 q hq) (by omega) (by omega)
  replace olka := olka.frame fun q hq => Kld (bllka.2 q hq) (by omega) (by omega)
  replace olkb := olkb.frame fun q hq => Kld (bllkb.2 q hq) (by omega) (by omega)
  replace olva := olva.frame fun q hq => Kld (bllva.2 q hq) (by omega) (by omega)
  replace olvb := olvb.frame fun q hq => Kld (bllvb.2 q hq) (by omega) (by omega)
  replace oloa := oloa.frame fun q hq => Kld (blloa.2 q hq) (by omega) (by omega)
  replace olob := olob.frame fun q hq => Kld (bllob.2 q hq) (by omega) (by omega)
  replace olb := olb.frame fun q hq => Kld (bllb.2 q hq) (by omega) (by omega)
  replace olua := olua.frame fun q hq => Kld (bllua.2 q hq) (by omega) (by omega)
  replace olub := olub.frame fun q hq => Kld (bllub.2 q hq) (by omega) (by omega)
  try (rw [kq]; refine ⟨by simp -dsimp -implicitDefEqProofs only [go_sem, rq1, hoo, rld_0], ?_⟩)
  repeat (first | rw [ko] | rw [kr] | simp -dsimp -implicitDefEqProofs only [go_sem, rq1, rq2, rq3, rq4, hoo, cla, clb])
  refine lit_intro rfl ?_
  intro w9 g9 hs9 l9
  have n9 := l9.1
  try simp only [hn_push, hn_set] at n9
  have r9_0 := l9.2 (hn g .mk + 1 + 1) zau
  have r9_1 := l9.2 (hn h' .mk) zau
  simp -dsimp -implicitDefEqProofs only [go_sem, rld_0, rld_1] at r9_0 r9_1
  have L9 : h'.le g9 := H2.le.trans zale l9
  try (rw [kq]; refine ⟨by simp -dsimp -implicitDefEqProofs only [go_sem, rq1, hoo, r9_0], ?_⟩)
  repeat (first | rw [ko] | rw [kr] | simp -dsimp -implicitDefEqProofs only [go_sem, rq1, hoo])
  have K9 : ∀ {q a b : Nat}, a ≤ q ∧ q < b → hn h' .mk + 1 ≤ a → b ≤ hn gld .mk → g9.get q = gld.get q := fun {q a b} h1 h2 h3 => by
   exact (show g9.get q = _ from l9.2 q zau).trans zfz
  replace ola := ola.frame fun q hq => K9 (blla.2 q hq) (by omega) (by omega)
  replace olqa := olqa.frame fun q hq => K9 (bllqa.2 q hq) (by omega) (by omega)
  replace olqb := olqb.frame fun q hq => K9 (bllqb.2 q hq) (by omega) (by omega)
  replace olka := olka.frame fun q hq => K9 (bllka.2 q hq) (by omega) (by omega)
  replace olkb := olkb.frame fun q hq => K9 (bllkb.2 q hq) (by omega) (by omega)
  replace olva := olva.frame fun q hq => K9 (bllva.2 q hq) (by omega) (by omega)
  replace olvb := olvb.frame fun q hq => K9 (bllvb.2 q hq) (by omega) (by omega)
  replace oloa := oloa.frame fun q hq => K9 (blloa.2 q hq) (by omega) (by omega)
  replace olob := olob.frame fun q hq => K9 (bllob.2 q hq) (by omega) (by omega)
  replace olb := olb.frame fun q hq => K9 (bllb.2 q hq) (by omega) (by omega)
  replace olua := olua.frame fun q hq => K9 (bllua.2 q hq) (by omega) (by omega)
  replace olub := olub.frame fun q hq => K9 (bllub.2 q hq) (by omega) (by omega)
  replace olda := olda.frame fun q hq => K9 (bllda.2 q hq) (by omega) (by omega)
  replace oldb := oldb.frame fun q hq => K9 (blldb.2 q hq) (by omega) (by omega)
  have oL := outLayer (c := c.layers.getD i default) ola olqa olqb olka olkb olva olvb oloa olob olb olua olub olda oldb
  have bA := (blla.append (bllq.append (bllk.append (bllv.append (bllo.append (bllb.append (bllu.append blld (by omega) (by omega)) (by omega) (by omega)) (by omega) (by omega)) (by omega) (by omega)) (by omega) (by omega)) (by omega) (by omega)) (by omega) (by omega))
  simp only [List.append_assoc] at bA
  have hvl := gr.lt
  have hLy : sumN szLayer c.layers ≤ 1048576 := by omega
  refine append_gr (P := Tryz.prog) (D := fun _ => none) (N := hn gw .mk) (us := eLayer (c.layers.getD i default)) Go.Ai.ty_el26 Go.Ai.ty_zr155 rfl Go.Ai.ty_cl26 (gr.keep L9) hs9 oL rfl (by omega) (fun b hb => by have := bA.2 b hb; omega) bA.1 (fun b hb hb' => by have := gr.bl b hb; have := bA.2 b hb'; omega) (fun b e hb' => by have := hvl b e; have := bA.2 b hb'; omega) (by have : Go.Ai.most = 1099511627776 := rfl; omega) ?_
  intro v' g10 gr10 n10 le10 fr10
  have rb := (fr10 (hn g .mk + 1 + 1) (by omega) (fun e => by have := hvl _ e; omega)).trans r9_0
  have hv' := Gr.cell gr10
  try (rw [kq]; refine ⟨zsm, ?_⟩)
  repeat (first | rw [ko] | rw [kr] | simp -dsimp -implicitDefEqProofs only [go_sem, rq1, hoo, w1, rb, hv'])
  refine nx_keep (m - 1) (by omega) zsm ⟨i + 1, v', bs ++ (bla ++ (blqa ++ (blqb ++ (blka ++ (blkb ++ (blva ++ (blvb ++ (bloa ++ (blob ++ (blb ++ (blua ++ (blub ++ (blda ++ bldb))))))))))))), zsm, by omega, by simp only [hn_set]; omega, fun b h1 h2 => ?_, by simp -dsimp -implicitDefEqProofs only [go_sem, hoo] <;> rfl, ?_⟩
  ·rw [hg_set, show (b == hn g .mk + 1 + 1) = false by simp [h2]]
   refine ((fr10 b (by omega) (fun e => by have := hvl _ e; omega)).trans (L9.2 b (by omega))).trans (fr b h1 h2)
  ·rw [flat_next q2]
   exact Gr.setB gr10 (by omega)
 ·have r2' := (fr (hn g .mk + 1) (by omega) (by omega)).trans rw_1
  repeat (first | rw [ko] | rw [kr] | simp -dsimp -implicitDefEqProofs only [go_sem, rq1, rq2, hks, ei, q1, r3, r2', hoo, hv, cm, ce, cg, cha, chb, cx, cw])
  have hi : i = c.layers.length := by omega
  rw [hi, List.take_length] at gr
  obtain ⟨b5, o5, bl5⟩ := Gr.tree (es := rLayerS c.layers) gr (by rw [rLayerS_len]) (fun e he => by obtain ⟨x, _, rfl⟩ := List.mem_map.1 he; rfl)
  have hle : g.le h' := ⟨by have := Lw.1; omega, fun b hb => (fr b (by have := Lw.1; omega) (by omega)).trans (Lw.2 b hb)⟩
  refine ⟨le_set hle (by omega), _, bm ++ (be ++ (b5 ++ (bg ++ (bha ++ (bhb ++ (bx ++ bw)))))), rfl, ?_, ?_⟩
  ·exact outModel (c := c) ((om.frame (g' := h') fun q hq => by have := blm.2 q hq; exact fr q zau (by omega)).setN blm (by omega)) ((oe.frame (g' := h') fun q hq => by have := ble.2 q hq; exact fr q zau (by omega)).setN ble (by omega)) (o5.setN bl5 (by omega)) ((og.frame (g' := h') fun q hq => by have := blg.2 q hq; exact fr q zau (by omega)).setN blg (by omega)) ((oha.frame (g' := h') fun q hq => by have := blha.2 q hq; exact fr q zau (by omega)).setN blha (by omega)) ((ohb.frame (g' := h') fun q hq => by have := blhb.2 q hq; exact fr q zau (by omega)).setN blhb (by omega)) ((ox.frame (g' := h') fun q hq => by have := blx.2 q hq; exact fr q zau (by omega)).setN blx (by omega)) ((ow.frame (g' := h') fun q hq => by have := blw.2 q hq; exact fr q zau (by omega)).setN blw (by omega))
  ·simp only [hn_set]
   have hA := blm.append (ble.append (blg.append (blh.append (blx.append (blw.append bl5 (by omega) (by omega)) (by omega) (by omega)) (by omega) (by omega)) (by omega) (by omega)) (by omega) (by omega)) (by omega) (by omega)
   refine (Bl.perm hA ?_).wide (by omega) (Nat.le_refl _)
   have p1 := List.perm_append_comm (l₁ := bg ++ (bha ++ (bhb ++ (bx ++ bw)))) (l₂ := b5)
   simp only [List.append_assoc] at p1 ⊢
   exact List.Perm.append_left bm (List.Perm.append_left be p1)
end Go.Bi
end
section
set_option maxRecDepth 20000
namespace Go.Bi
open Go.Proofs
open Go.Ai (wrap_i64 wrap_u8)
variable {W0 : World} {P : Program}
set_option maxHeartbeats 8000000
theorem app_ints {f : Adr} {h : H2} {K : KT} {zs : List Int} (hs : zs.length ≤ 1048576) (hk : ∀ y g' b, h.le g' → OT g' b y (.l 1 (ints zs)) → Bl (hn h .mk) (hn g' .mk) b → kz K y g' .mk) :
  az (biz Tryz.prog (h.push ⟨1, []⟩) .append [27, 27] [.raw (.slice (some ⟨hn h .mk, 0, none⟩) 0 0), .sl f 1 (ints zs)] .mk) K .mk := by
 refine append_ints (P := Tryz.prog) (D := fun _ => none) (N := hn h .mk) (xs := []) Go.Ai.ty_el27 Go.Ai.ty_zr3 Go.Ai.ty_cl27 (Own.new (Nat.le_refl _) rfl) (by simp only [hn_push]; omega) (by simp only [List.length_nil]; have : Go.Ai.most = 1099511627776 := rfl; omega) ?_
 intro y g1 oy n1 le1 fr1
 rw [List.nil_append] at oy
 obtain ⟨b, o, bl⟩ := OwnI.tree oy
 exact hk y g1 b (le1 h (Nat.le_refl _) (H2.le_push1 h _)) o bl
theorem app_merges {f : Adr} {h : H2} {K : KT} {zs : List LMerge} (hs : zs.length ≤ 1048576) (hk : ∀ y g' b, h.le g' → OT g' b y (.l 2 (rMergeS zs)) → Bl (hn h .mk) (hn g' .mk) b → kz K y g' .mk) :
  az (biz Tryz.prog (h.push ⟨2, []⟩) .append [24, 24] [.raw (.slice (some ⟨hn h .mk, 0, none⟩) 0 0), .sl f 2 (rMergeS zs)] .mk) K .mk := by
 refine append_merges (P := Tryz.prog) (D := fun _ => none) (N := hn h .mk) Go.Ai.ty_el24 Go.Ai.ty_zr169 rfl Go.Ai.ty_cl24 (Own.new (Nat.le_refl _) rfl) (by simp only [hn_push]; omega) (by have : Go.Ai.most = 1099511627776 := rfl; omega) ?_
 intro v' g' bs o' bl' n1 hle _
 exact hk v' g' bs (hle h (Nat.le_refl _) (H2.le_push1 h _)) o' (by first | exact bl' | exact bl'.wide (Nat.le_refl _) (Nat.le_refl _))
theorem copyModel_new {F : Nat → Adr} {c : LModel} {g : H2} (hs : szModel c ≤ 1048576) : NewS Tryz.prog W0 53 [.st (xModel F c)] g (eModel c) := by
 have hsz : szModel c = (c.merges.length + sumN szMerge c.merges) + szIntSS c.embed + (c.layers.length + sumN szLayer c.layers) + c.gainEnd.length + szMatrix c.head + (szIntSS c.turns.cos + szIntSS c.turns.sin) := rfl
 refine begins [[0], [1, 2], [1, 2], [1, 2], [1, 2, 3], [1, 2, 3, 4], [1, 2, 3, 4], [1, 2, 3, 4], [1, 2, 3, 4, 5], [1, 2, 3, 4, 5], [1, 2, 3, 4, 5], [1, 2, 3, 4, 5], [1, 2, 3, 4, 5], [1, 2, 3, 4, 5], [1, 2, 3, 4, 5], [1, 2, 3, 4, 5], [1, 2, 3, 4, 5], [1, 2, 3], [1, 2], [1, 2], [1, 2], [1, 2]] Tryz.func53 rfl (rs := [.cell 2 33]) rfl rfl ?_
 intro wf
 have ne1 : (hn g .mk == hn g .mk + 1) = false := by simp
 have ne2 : (hn g .mk == hn g .mk + 1 + 1) = false := zne
 have ne3 : (hn g .mk + 1 == hn g .mk + 1 + 1) = false := by simp
 have ne4 : (hn g .mk + 1 == hn g .mk) = false := by simp
 repeat (first | rw [ko] | rw [kr] | simp -dsimp -implicitDefEqProofs only [go_sem, rq1, rq2, rq3, hoo, ne1, ne2])
 refine app_merges (by omega) ?_
 intro sm gm bm lm om blm
 have cm := OT.cell om
 have nm := lm.1
 try simp only [hn_push] at nm blm
 have rm_0 := lm.2 (hn g .mk) zau
 have rm_1 := lm.2 (hn g .mk + 1) zau
 simp -dsimp -implicitDefEqProofs only [go_sem, hoo, ne1, hoo, hoo] at rm_0 rm_1
 have Lm : g.le gm := H2.le.trans zale lm
 have nxm_0 : ((hn g .mk) == hn gm .mk) = false := zne
 have nxm_1 : ((hn g .mk + 1) == hn gm .mk) = false := zne
 repeat (first | rw [ko] | rw [kr] | simp -dsimp -implicitDefEqProofs only [go_sem, rq1, hoo, rm_0, cm])
 refine wz_intro (copyLists_new (by omega)) ?_
 rintro se ge ⟨le, be, oe, ble⟩
 have ce := OT.cell oe
 have ne := le.1
 try simp only [hn_set] at ne ble
 have re_0 := le.2 (hn g .mk) zau
 have re_1 := le.2 (hn g .mk + 1) zau
 simp -dsimp -implicitDefEqProofs only [go_sem, hoo, ne4, rm_1] at re_0 re_1
 have Le : g.le ge := H2.le.trans zale le
 have Ke : ∀ {q a b : Nat}, a ≤ q ∧ q < b → hn g .mk + 1 + 1 ≤ a → b ≤ hn gm .mk → ge.get q = gm.get q := fun {q a b} h1 h2 h3 => by
  exact (show ge.get q = _ from le.2 q zau).trans zfz
 replace om := om.frame fun q hq => Ke (blm.2 q hq) (by omega) (by omega)
 have nxe_0 : ((hn g .mk) == hn ge .mk) = false := zne
 have nxe_1 : ((hn g .mk + 1) == hn ge .mk) = false := zne
 repeat (first | rw [ko] | rw [kr] | simp -dsimp -implicitDefEqProofs only [go_sem, rq1, rq2, rq3, hoo, re_0, ce])
 refine lz_keep [1, 2] (fun m s h' => ∃ (i : Nat) (v : X) (bs : List Nat), look s 4 .mk = .raw (.int .i64 (i : Nat)) ∧ look s 3 .mk = v ∧ m + i = c.layers.length ∧ hn ge .mk ≤ hn h' .mk ∧ (∀ b, b < hn ge .mk → b ≠ hn g .mk → hg h' b .mk = hg ge b .mk) ∧ hg h' (hn g .mk) .mk = some ⟨14, [.raw (.int .i64 c.dim), .raw (.int .i64 c.heads), .raw (.int .i64 c.context), sm, se, .sl (F 5) 32 (rLayerS c.layers), .sl (F 6) 1 (ints c.gainEnd), .raw (.int .i64 c.head.width), .sl (F 8) 1 (rIntSS c.head.rows), .sl (F 9) 1 (rIntSS c.head.scales), .raw (.int .i64 c.head.mul), .raw (.int .i64 c.head.shift), .sl (F 12) 1 (rIntSS c.turns.cos), .sl (F 13) 1 (rIntSS c.turns.sin)]⟩ ∧ Gr (hn ge .mk) h' v 32 i (((c.layers.take i).map eLayer).flatten) bs) c.layers.length ?_ ?_
 ·have ne9 : (hn g .mk == hn ge .mk) = false := zne
  refine ⟨0, .raw (.slice (some ⟨hn ge .mk, 0, none⟩) 0 0), [], zsm, zsm, by omega, by simp only [hn_push, hn_set]; omega, fun b h1 h2 => ?_, by simp -dsimp -implicitDefEqProofs only [go_sem, hoo, ne9] <;> rfl, Gr.empty (by simp only [hn_set]; omega)⟩
  rw [hg_push, hn_set, show (b == hn ge .mk) = false by simp; omega, hk_f, hg_set, show (b == hn g .mk) = false by simp [h2]]; rfl
 rintro m s h' hks ⟨i, v, bs, ei, ev, hm, hnn, fr, r1, gr⟩
 simp -dsimp -implicitDefEqProofs only [go_sem] at hks
 have hv := Gr.cell gr
 by_cases q1 : (i : Int) < (c.layers.length : Int)
 ·have q2 : i < c.layers.length := by omega
  have w1 := wrap_succ q2 (by omega)
  have ne7 : ((hn g .mk) == hn h' .mk) = false := zne
  have ne8 : (hn h' .mk == (hn g .mk)) = false := zne
  have ne10 : (hn h' .mk == hn h' .mk + 1) = false := by simp
  have hsl : szLayer (c.layers.getD i default) ≤ sumN szLayer c.layers := sumN_mem (f := szLayer) (getD_mem q2)
  have hszL : szLayer (c.layers.getD i default) = (c.layers.getD i default).gain1.length + szMatrix (c.layers.getD i default).q + szMatrix (c.layers.getD i default).k + szMatrix (c.layers.getD i default).v + szMatrix (c.layers.getD i default).o + (c.layers.getD i default).gain2.length + szMatrix (c.layers.getD i default).up + szMatrix (c.layers.getD i default).down := rfl
  repeat (first | rw [ko] | rw [kr] | simp -dsimp -implicitDefEqProofs only [go_sem, rq1, rq2, rq3, hks, ei, ev, q1, q2, hoo, ne10, r1])
  refine app_ints (by omega) ?_
  intro sla gla bla lla ola blla
  have cla := OT.cell ola
  have nla := lla.1
  try simp only [hn_push] at nla blla
  have rla_0 := lla.2 (hn g .mk) zau
  have rla_1 := lla.2 (hn h' .mk) zau
  simp -dsimp -implicitDefEqProofs only [go_sem, hoo, ne7, r1, hoo] at rla_0 rla_1
  have Lla : h'.le gla := H2.le.trans zale lla
  have nxla_0 : ((hn g .mk) == hn gla .mk) = false := zne
  have nxla_1 : ((hn h' .mk) == hn gla .mk) = false := zne
  repeat (first | rw [ko] | rw [kr] | simp -dsimp -implicitDefEqProofs only [go_sem, rq1, rq3, hoo, nxla_1, rla_1, cla])
  refine app_ints (by omega) ?_
  intro slb glb blb llb olb bllb
  have clb := OT.cell olb
  have nlb := llb.1
  try simp only [hn_set] at nlb bllb
  have rlb_0 := llb.2 (hn g .mk) zau
  have rlb_1 := llb.2 (hn h' .mk) zau
  simp -dsimp -implicitDefEqProofs only [go_sem, hoo, ne7, rla_0] at rlb_0 rlb_1
  have Llb : h'.le glb := H2.le.trans zale llb
  have Klb : ∀ {q a b : Nat}, a ≤ q ∧ q < b → hn h' .mk + 1 ≤ a → b ≤ hn gla .mk → glb.get q = gla.get q := fun {q a b} h1 h2 h3 => by
   exact (show glb.get q = _ from llb.2 q zau).trans zfz
  replace ola := ola.frame fun q hq => Klb (blla.2 q hq) (by omega) (by omega)
  have nxlb_0 : ((hn g .mk) == hn glb .mk) = false := zne
  have nxlb_1 : ((hn h' .mk) == hn glb .mk) = false := zne
  repeat (first | rw [ko] | rw [kr] | simp -dsimp -implicitDefEqProofs only [go_sem, rq1, hoo, rlb_1, clb])
  refine wz_intro (copyMatrix_new (F := (fun j => under (under (F 5) i) (j + 1))) (c := (c.layers.getD i default).q) (by omega)) ?_
  rintro _ glq ⟨llq, yslq, bblq, rfl, oolq, bllq⟩
  obtain ⟨blqa, slqa, blqb, slqb, rfl, rfl, olqa, olqb⟩ := invMatrix oolq
  have clqa := OT.cell olqa
  have clqb := OT.cell olqb
  have nlq := llq.1
  try simp only [hn_set] at nlq bllq
  have bllqa := bllq.split.1
  have bllqb := bllq.split.2.1
  have rlq_0 := llq.2 (hn g .mk) zau
  have rlq_1 := llq.2 (hn h' .mk) zau
  simp -dsimp -implicitDefEqProofs only [go_sem, hoo, ne7, rlb_0] at rlq_0 rlq_1
  have Llq : h'.le glq := H2.le.trans zale llq
  have Klq : ∀ {q a b : Nat}, a ≤ q ∧ q < b → hn h' .mk + 1 ≤ a → b ≤ hn glb .mk → glq.get q = glb.get q := fun {q a b} h1 h2 h3 => by
   exact (show glq.get q = _ from llq.2 q zau).trans zfz
  replace ola := ola.frame fun q hq => Klq (blla.2 q hq) (by omega) (by omega)
  replace olb := olb.frame fun q hq => Klq (bllb.2 q hq) (by omega) (by omega)
  have nxlq_0 : ((hn g .mk) == hn glq .mk) = false := zne
  have nxlq_1 : ((hn h' .mk) == hn glq .mk) = false := zne
  repeat (first | rw [ko] | rw [kr] | simp -dsimp -implicitDefEqProofs only [go_sem, rq1, rq2, hoo, rlq_1, clqa, clqb])
  refine wz_intro (copyMatrix_new (F := (fun j => under (under (F 5) i) (j + 6))) (c := (c.layers.getD i default).k) (by omega)) ?_
  rintro _ glk ⟨llk, yslk, bblk, rfl, oolk, bllk⟩
  obtain ⟨blka, slka, blkb, slkb, rfl, rfl, olka, olkb⟩ := invMatrix oolk
  have clka := OT.cell olka
  have clkb := OT.cell olkb
  have nlk := llk.1
  try simp only [hn_set] at nlk bllk
  have bllka := bllk.split.1
  have bllkb := bllk.split.2.1
  have rlk_0 := llk.2 (hn g .mk) zau
  have rlk_1 := llk.2 (hn h' .mk) zau
  simp -dsimp -implicitDefEqProofs only [go_sem, hoo, ne7, rlq_0] at rlk_0 rlk_1
  have Llk : h'.le glk := H2.le.trans zale llk
  have Klk : ∀ {q a b : Nat}, a ≤ q ∧ q < b → hn h' .mk + 1 ≤ a → b ≤ hn glq .mk → glk.get q = glq.get q := fun {q a b} h1 h2 h3 => by
   exact (show glk.get q = _ from llk.2 q zau).trans zfz
  replace ola := ola.frame fun q hq => Klk (blla.2 q hq) (by omega) (by omega)
  replace olb := olb.frame fun q hq => Klk (bllb.2 q hq) (by omega) (by omega)
  replace olqa := olqa.frame fun q hq => Klk (bllqa.2 q hq) (by omega) (by omega)
  replace olqb := olqb.frame fun q hq => Klk (bllqb.2 q hq) (by omega) (by omega)
  have nxlk_0 : ((hn g .mk) == hn glk .mk) = false := zne
  have nxlk_1 : ((hn h' .mk) == hn glk .mk) = false := zne
  repeat (first | rw [ko] | rw [kr] | simp -dsimp -implicitDefEqProofs only [go_sem, rq1, rq2, hoo, rlk_1, clka, clkb])
  refine wz_intro (copyMatrix_new (F := (fun j => under (under (F 5) i) (j + 11))) (c := (c.layers.getD i default).v) (by omega)) ?_
  rintro _ glv ⟨llv, yslv, bblv, rfl, oolv, bllv⟩
  obtain ⟨blva, slva, blvb, slvb, rfl, rfl, olva, olvb⟩ := invMatrix oolv
  have clva := OT.cell olva
  have clvb := OT.cell olvb
  have nlv := llv.1
  try simp only [hn_set] at nlv bllv
  have bllva := bllv.split.1
  have bllvb := bllv.split.2.1
  have rlv_0 := llv.2 (hn g .mk) zau
  have rlv_1 := llv.2 (hn h' .mk) zau
  simp -dsimp -implicitDefEqProofs only [go_sem, hoo, ne7, rlk_0] at rlv_0 rlv_1
  have Llv : h'.le glv := H2.le.trans zale llv
  have Klv : ∀ {q a b : Nat}, a ≤ q ∧ q < b → hn h' .mk + 1 ≤ a → b ≤ hn glk .mk → glv.get q = glk.get q := fun {q a b} h1 h2 h3 => by
   exact (show glv.get q = _ from llv.2 q zau).trans zfz
  replace ola := ola.frame fun q hq => Klv (blla.2 q hq) (by omega) (by omega)
  replace olb := olb.frame fun q hq => Klv (bllb.2 q hq) (by omega) (by omega)
  replace olqa := olqa.frame fun q hq => Klv (bllqa.2 q hq) (by omega) (by omega)
  replace olqb := olqb.frame fun q hq => Klv (bllqb.2 q hq) (by omega) (by omega)
  replace olka := olka.frame fun q hq => Klv (bllka.2 q hq) (by omega) (by omega)
  replace olkb := olkb.frame fun q hq => Klv (bllkb.2 q hq) (by omega) (by omega)
  have nxlv_0 : ((hn g .mk) == hn glv .mk) = false := zne
  have nxlv_1 : ((hn h' .mk) == hn glv .mk) = false := zne
  repeat (first | rw [ko] | rw [kr] | simp -dsimp -implicitDefEqProofs only [go_sem, rq1, rq2, hoo, rlv_1, clva, clvb])
  refine wz_intro (copyMatrix_new (F := (fun j => under (under (F 5) i) (j + 16))) (c := (c.layers.getD i default).o) (by omega)) ?_
  rintro _ glo ⟨llo, yslo, bblo, rfl, oolo, bllo⟩
  obtain ⟨bloa, sloa, blob, slob, rfl, rfl, oloa, olob⟩ := invMatrix oolo
  have cloa := OT.cell oloa
  have clob := OT.cell olob
  have nlo := llo.1
  try simp only [hn_set] at nlo bllo
  have blloa := bllo.split.1
  have bllob := bllo.split.2.1
  have rlo_0 := llo.2 (hn g .mk) zau
  have rlo_1 := llo.2 (hn h' .mk) zau
  simp -dsimp -implicitDefEqProofs only [go_sem, hoo, ne7, rlv_0] at rlo_0 rlo_1
  have Llo : h'.le glo := H2.le.trans zale llo
  have Klo : ∀ {q a b : Nat}, a ≤ q ∧ q < b → hn h' .mk + 1 ≤ a → b ≤ hn glv .mk → glo.get q = glv.get q := fun {q a b} h1 h2 h3 => by
   exact (show glo.get q = _ from llo.2 q zau).trans zfz
  replace ola := ola.frame fun q hq => Klo (blla.2 q hq) (by omega) (by omega)
  replace olb := olb.frame fun q hq => Klo (bllb.2 q hq) (by omega) (by omega)
  replace olqa := olqa.frame fun q hq => Klo (bllqa.2 q hq) (by omega) (by omega)
  replace olqb := olqb.frame fun q hq => Klo (bllqb.2 q hq) (by omega) (by omega)
  replace olka := olka.frame fun q hq => Klo (bllka.2 q hq) (by omega) (by omega)
  replace olkb := olkb.frame fun q hq => Klo (bllkb.2 q hq) (by omega) (by omega)
  replace olva := olva.frame fun q hq => Klo (bllva.2 q hq) (by omega) (by omega)
  replace olvb := olvb.frame fun q hq => Klo (bllvb.2 q hq) (by omega) (by omega)
  have nxlo_0 : ((hn g .mk) == hn glo .mk) = false := zne
  have nxlo_1 : ((hn h' .mk) == hn glo .mk) = false := zne
  repeat (first | rw [ko] | rw [kr] | simp -dsimp -implicitDefEqProofs only [go_sem, rq1, rq2, hoo, rlo_1, cloa, clob])
  refine wz_intro (copyMatrix_new (F := (fun j => under (under (F 5) i) (j + 22))) (c := (c.layers.getD i default).up) (by omega)) ?_
  rintro _ glu ⟨llu, yslu, bblu, rfl, oolu, bllu⟩
  obtain ⟨blua, slua, blub, slub, rfl, rfl, olua, olub⟩ := invMatrix oolu
  have clua := OT.cell olua
  have club := OT.cell olub
  have nlu := llu.1
  try simp only [hn_set] at nlu bllu
  have bllua := bllu.split.1
  have bllub := bllu.split.2.1
  have rlu_0 := llu.2 (hn g .mk) zau
  have rlu_1 := llu.2 (hn h' .mk) zau
  simp -dsimp -implicitDefEqProofs only [go_sem, hoo, ne7, rlo_0] at rlu_0 rlu_1
  have Llu : h'.le glu := H2.le.trans zale llu
  have Klu : ∀ {q a b : Nat}, a ≤ q ∧ q < b → hn h' .mk + 1 ≤ a → b ≤ hn glo .mk → glu.get q = glo.get q := fun {q a b} h1 h2 h3 => by
   exact (show glu.get q = _ from llu.2 q zau).trans zfz
  replace ola := ola.frame fun q hq => Klu (blla.2 q hq) (by omega) (by omega)
  replace olb := olb.frame fun q hq => Klu (bllb.2 q hq) (by omega) (by omega)
  replace olqa := olqa.frame fun q hq => Klu (bllqa.2 q hq) (by omega) (by omega)
  replace olqb := olqb.frame fun q hq => Klu (bllqb.2 q hq) (by omega) (by omega)
  replace olka := olka.frame fun q hq => Klu (bllka.2 q hq) (by omega) (by omega)
  replace olkb := olkb.frame fun q hq => Klu (bllkb.2 q hq) (by omega) (by omega)
  replace olva := olva.frame fun q hq => Klu (bllva.2 q hq) (by omega) (by omega)
  replace olvb := olvb.frame fun q hq => Klu (bllvb.2 q hq) (by omega) (by omega)
  replace oloa := oloa.frame fun q hq => Klu (blloa.2 q hq) (by omega) (by omega)
  replace olob := olob.frame fun q hq => Klu (bllob.2 q hq) (by omega) (by omega)
  have nxlu_0 : ((hn g .mk) == hn glu .mk) = false := zne
  have nxlu_1 : ((hn h' .mk) == hn glu .mk) = false := zne
  repeat (first | rw [ko] | rw [kr] | simp -dsimp -implicitDefEqProofs only [go_sem, rq1, rq2, hoo, rlu_1, clua, club])
  refine wz_intro (copyMatrix_new (F := (fun j => under (under (F 5) i) (j + 27))) (c := (c.layers.getD i default).down) (by omega)) ?_
  rintro _ gld ⟨lld, ysld, bbld, rfl, oold, blld⟩
  obtain ⟨blda, slda, bldb, sldb, rfl, rfl, olda, oldb⟩ := invMatrix oold
  have clda := OT.cell olda
  have cldb := OT.cell oldb
  have nld := lld.1
  try simp only [hn_set] at nld blld
  have bllda := blld.split.1
  have blldb := blld.split.2.1
  have rld_0 := lld.2 (hn g .mk) zau
  have rld_1 := lld.2 (hn h' .mk) zau
  simp -dsimp -implicitDefEqProofs only [go_sem, hoo, ne7, rlu_0] at rld_0 rld_1
  have Lld : h'.le gld := H2.le.trans zale lld
  have Kld : ∀ {q a b : Nat}, a ≤ q ∧ q < b → hn h' .mk + 1 ≤ a → b ≤ hn glu .mk → gld.get q = glu.get q := fun {q a b} h1 h2 h3 => by
   exact (show gld.get q = _ from lld.2 q zau).trans zfz
  replace ola := ola.frame fun q hq => Kld (blla.2 q hq) (by omega) (by omega)
  replace olb := olb.frame fun q hq => Kld (bllb.2 q hq) (by omega) (by omega)
  replace olqa := olqa.frame fun q hq => Kld (bllqa.2 q hq) (by omega) (by omega)
  replace olqb := olqb.frame fun q hq => Kld (bllqb.2 q hq) (by omega) (by omega)
  replace olka := olka.frame fun q hq => Kld (bllka.2 q hq) (by omega) (by omega)
  replace olkb := olkb.frame fun q hq => Kld (bllkb.2 q hq) (by omega) (by omega)
  replace olva := olva.frame fun q hq => Kld (bllva.2 q hq) (by omega) (by omega)
  replace olvb := olvb.frame fun q hq => Kld (bllvb.2 q hq) (by omega) (by omega)
  replace oloa := oloa.frame fun q hq => Kld (blloa.2 q hq) (by omega) (by omega)
  replace olob := olob.frame fun q hq => Kld (bllob.2 q hq) (by omega) (by omega)
  replace olua := olua.frame fun q hq => Kld (bllua.2 q hq) (by omega) (by omega)
  replace olub := olub.frame fun q hq => Kld (bllub.2 q hq) (by omega) (by omega)
  have nxld_0 : ((hn g .mk) == hn gld .mk) = false := zne
  have nxld_1 : ((hn h' .mk) == hn gld .mk) = false := zne
  repeat (first | rw [ko] | rw [kr] | simp -dsimp -implicitDefEqProofs only [go_sem, rq1, rq2, rq3, rq4, hoo, rld_1, clda, cldb])
  refine lit_intro rfl ?_
  intro w9 g9 hs9 l9
  have n9 := l9.1
  try simp only [hn_set] at n9
  have r9_0 := l9.2 (hn g .mk) zau
  have r9_1 := l9.2 (hn h' .mk) zau
  simp -dsimp -implicitDefEqProofs only [go_sem, hoo, ne7, rld_0] at r9_0 r9_1
  have L9 : h'.le g9 := H2.le.trans zale l9
  try (rw [kq]; refine ⟨by simp -dsimp -implicitDefEqProofs only [go_sem, rq1, rq2, rq3, rq4, rq5, rq6, rq7, hks, ei, ev, q1, q2, hoo, hv, w1, ne7, ne8, ne10, nxla_0, nxla_1, nxlb_0, nxlb_1, nxlq_0, nxlq_1, nxlk_0, nxlk_1, nxlv_0, nxlv_1, nxlo_0, nxlo_1, nxlu_0, nxlu_1, nxld_0, nxld_1, r9_0, r9_1, cla, clb, clqa, clqb, clka, clkb, clva, clvb, cloa, clob, clua, club, clda, cldb], ?_⟩)
  repeat (first | rw [ko] | rw [kr] | simp -dsimp -implicitDefEqProofs only [go_sem, hoo])
  have K9 : ∀ {q a b : Nat}, a ≤ q ∧ q < b → hn h' .mk + 1 ≤ a → b ≤ hn gld .mk → g9.get q = gld.get q := fun {q a b} h1 h2 h3 => by
   exact (show g9.get q = _ from l9.2 q zau).trans zfz
  replace ola := ola.frame fun q hq => K9 (blla.2 q hq) (by omega) (by omega)
  replace olb := olb.frame fun q hq => K9 (bllb.2 q hq) (by omega) (by omega)
  replace olqa := olqa.frame fun q hq => K9 (bllqa.2 q hq) (by omega) (by omega)
  replace olqb := olqb.frame fun q hq => K9 (bllqb.2 q hq) (by omega) (by omega)
  replace olka := olka.frame fun q hq => K9 (bllka.2 q hq) (by omega) (by omega)
  replace olkb := olkb.frame fun q hq => K9 (bllkb.2 q hq) (by omega) (by omega)
  replace olva := olva.frame fun q hq => K9 (bllva.2 q hq) (by omega) (by omega)
  replace olvb := olvb.frame fun q hq => K9 (bllvb.2 q hq) (by omega) (by omega)
  replace oloa := oloa.frame fun q hq => K9 (blloa.2 q hq) (by omega) (by omega)
  replace olob := olob.frame fun q hq => K9 (bllob.2 q hq) (by omega) (by omega)
  replace olua := olua.frame fun q hq => K9 (bllua.2 q hq) (by omega) (by omega)
  replace olub := olub.frame fun q hq => K9 (bllub.2 q hq) (by omega) (by omega)
  replace olda := olda.frame fun q hq => K9 (bllda.2 q hq) (by omega) (by omega)
  replace oldb := oldb.frame fun q hq => K9 (blldb.2 q hq) (by omega) (by omega)
  have oL := outLayer (c := c.layers.getD i default) ola olqa olqb olka olkb olva olvb oloa olob olb olua olub olda oldb
  have bA := (blla.append (bllb.append (bllq.append (bllk.append (bllv.append (bllo.append (bllu.append blld (by omega) (by omega)) (by omega) (by omega)) (by omega) (by omega)) (by omega) (by omega)) (by omega) (by omega)) (by omega) (by omega)) (by omega) (by omega))
  simp only [List.append_assoc] at bA
  replace bA := Bl.perm bA (List.Perm.append_left bla (by have p1 := List.perm_append_comm_assoc blb (blqa ++ (blqb ++ (blka ++ (blkb ++ (blva ++ (blvb ++ (bloa ++ blob))))))) (blua ++ (blub ++ (blda ++ bldb))); simpa only [List.append_assoc] using p1))
  have hvl := gr.lt
  have hLy : sumN szLayer c.layers ≤ 1048576 := by omega
  refine append_gr (P := Tryz.prog) (D := fun _ => none) (N := hn ge .mk) (us := eLayer (c.layers.getD i default)) Go.Ai.ty_el26 Go.Ai.ty_zr155 rfl Go.Ai.ty_cl26 (gr.keep L9) hs9 oL rfl (by omega) (fun b hb => by have := bA.2 b hb; omega) bA.1 (fun b hb hb' => by have := gr.bl b hb; have := bA.2 b hb'; omega) (fun b e hb' => by have := hvl b e; have := bA.2 b hb'; omega) (by have : Go.Ai.most = 1099511627776 := rfl; omega) ?_
  intro v' g10 gr10 n10 le10 fr10
  have rb := (fr10 (hn g .mk) (by omega) (fun e => by have := hvl _ e; omega)).trans r9_0
  have hv' := Gr.cell gr10
  try (rw [kq]; refine ⟨by simp -dsimp -implicitDefEqProofs only [go_sem, rq1, rq2, rq3, rq4, rq5, rq6, rq7, hks, ei, ev, q1, q2, hoo, hv, w1, ne7, ne8, ne10, nxla_0, nxla_1, nxlb_0, nxlb_1, nxlq_0, nxlq_1, nxlk_0, nxlk_1, nxlv_0, nxlv_1, nxlo_0, nxlo_1, nxlu_0, nxlu_1, nxld_0, nxld_1, rb, hv'], ?_⟩)
  repeat (first | rw [ko] | rw [kr] | simp -dsimp -implicitDefEqProofs only [go_sem, rq1, hoo, w1])
  refine nx_keep (m - 1) (by omega) zsm ⟨i + 1, v', bs ++ (bla ++ (blqa ++ (blqb ++ (blka ++ (blkb ++ (blva ++ (blvb ++ (bloa ++ (blob ++ (blb ++ (blua ++ (blub ++ (blda ++ bldb))))))))))))), zsm, zsm, by omega, by omega, fun b h1 h2 => ((fr10 b (by omega) (fun e => by have := hvl _ e; omega)).trans (L9.2 b (by omega))).trans (fr b h1 h2), rb, ?_⟩
  rw [flat_next q2]
  exact gr10
 have r2 := (fr (hn g .mk + 1) (by omega) (by omega)).trans re_1
 have hi : i = c.layers.length := by omega
 rw [hi, List.take_length] at gr
 obtain ⟨b5, o5, bl5⟩ := Gr.tree (es := rLayerS c.layers) gr (by rw [rLayerS_len]) (fun e he => by obtain ⟨x, _, rfl⟩ := List.mem_map.1 he; rfl)
 have L5 : g.le h' := ⟨by have := Le.1; omega, fun b hb => (fr b (by have := Le.1; omega) (by omega)).trans (Le.2 b hb)⟩
 replace om := om.frame (g' := h') fun q hq => by have := blm.2 q hq; exact fr q (by omega) (by omega)
 replace oe := oe.frame (g' := h') fun q hq => by have := ble.2 q hq; exact fr q (by omega) (by omega)
 have n5 := L5.1
 have ne11 : (hn g .mk == hn h' .mk) = false := zne
 have ne12 : (hn g .mk + 1 == hn h' .mk) = false := zne
 repeat (first | rw [ko] | rw [kr] | simp -dsimp -implicitDefEqProofs only [go_sem, rq1, rq3, hks, ei, ev, q1, hoo, ne11, r1, hv])
 refine app_ints (by omega) ?_
 intro sg gg bg lg og blg
 have cg := OT.cell og
 have ng := lg.1
 try simp only [hn_set] at ng blg
 have rg_0 := lg.2 (hn g .mk) zau
 have rg_1 := lg.2 (hn g .mk + 1) zau
 simp -dsimp -implicitDefEqProofs only [go_sem, hoo, ne4, r2] at rg_0 rg_1
 have Lg : g.le gg := H2.le.trans zale lg
 have Kg : ∀ {q a b : Nat}, a ≤ q ∧ q < b → hn g .mk + 1 + 1 ≤ a → b ≤ hn h' .mk → gg.get q = h'.get q := fun {q a b} h1 h2 h3 => by
  exact (show gg.get q = _ from lg.2 q zau).trans zfz
 replace om := om.frame fun q hq => Kg (blm.2 q hq) (by omega) (by omega)
 replace oe := oe.frame fun q hq => Kg (ble.2 q hq) (by omega) (by omega)
 replace o5 := o5.frame fun q hq => Kg (bl5.2 q hq) (by omega) (by omega)
 have nxg_0 : ((hn g .mk) == hn gg .mk) = false := zne
 have nxg_1 : ((hn g .mk + 1) == hn gg .mk) = false := zne
 repeat (first | rw [ko] | rw [kr] | simp -dsimp -implicitDefEqProofs only [go_sem, rq1, hoo, rg_0, cg])
 refine wz_intro (copyMatrix_new (F := fun j => F (j + 7)) (c := c.head) (by omega)) ?_
 rintro _ gh ⟨lh, ysh, bbh, rfl, ooh, blh⟩
 obtain ⟨bha, sha, bhb, shb, rfl, rfl, oha, ohb⟩ := invMatrix ooh
 have cha := OT.cell oha
 have chb := OT.cell ohb
 have nh := lh.1
 try simp only [hn_set] at nh blh
 have blha := blh.split.1
 have blhb := blh.split.2.1
 have rh_0 := lh.2 (hn g .mk) zau
 have rh_1 := lh.2 (hn g .mk + 1) zau
 simp -dsimp -implicitDefEqProofs only [go_sem, hoo, ne4, rg_1] at rh_0 rh_1
 have Lh : g.le gh := H2.le.trans zale lh
 have Kh : ∀ {q a b : Nat}, a ≤ q ∧ q < b → hn g .mk + 1 + 1 ≤ a → b ≤ hn gg .mk → gh.get q = gg.get q := fun {q a b} h1 h2 h3 => by
  exact (show gh.get q = _ from lh.2 q zau).trans zfz
 replace om := om.frame fun q hq => Kh (blm.2 q hq) (by omega) (by omega)
 replace oe := oe.frame fun q hq => Kh (ble.2 q hq) (by omega) (by omega)
 replace o5 := o5.frame fun q hq => Kh (bl5.2 q hq) (by omega) (by omega)
 replace og := og.frame fun q hq => Kh (blg.2 q hq) (by omega) (by omega)
 have nxh_0 : ((hn g .mk) == hn gh .mk) = false := zne
 have nxh_1 : ((hn g .mk + 1) == hn gh .mk) = false := zne
 repeat (first | rw [ko] | rw [kr] | simp -dsimp -implicitDefEqProofs only [go_sem, rq1, rq2, hoo, rh_0, cha, chb])
 refine dq_intro [(0, []), (1, []), (2, []), (4, []), (5, []), (6, []), (3, [6]), (7, []), (8, []), (9, []), (10, [])] (by kernel_rfl) ?_
 repeat (first | rw [ko] | rw [kr] | simp -dsimp -implicitDefEqProofs only [go_sem, rq1, rq2, hoo])
 refine wz_intro (copyLists_new (by omega)) ?_
 rintro sx gx ⟨lx, bx, ox, blx⟩
 have cx := OT.cell ox
 have nx := lx.1
 try simp only [hn_set] at nx blx
 have rx_0 := lx.2 (hn g .mk) zau
 have rx_1 := lx.2 (hn g .mk + 1) zau
 simp -dsimp -implicitDefEqProofs only [go_sem, hoo, ne4, rh_1] at rx_0 rx_1
 have Lx : g.le gx := H2.le.trans zale lx
 have Kx : ∀ {q a b : Nat}, a ≤ q ∧ q < b → hn g .mk + 1 + 1 ≤ a → b ≤ hn gh .mk → gx.get q = gh.get q := fun {q a b} h1 h2 h3 => by
  exact (show gx.get q = _ from lx.2 q zau).trans zfz
 replace om := om.frame fun q hq => Kx (blm.2 q hq) (by omega) (by omega)
 replace oe := oe.frame fun q hq => Kx (ble.2 q hq) (by omega) (by omega)
 replace o5 := o5.frame fun q hq => Kx (bl5.2 q hq) (by omega) (by omega)
 replace og := og.frame fun q hq => Kx (blg.2 q hq) (by omega) (by omega)
 replace oha := oha.frame fun q hq => Kx (blha.2 q hq) (by omega) (by omega)
 replace ohb := ohb.frame fun q hq => Kx (blhb.2 q hq) (by omega) (by omega)
 have nxx_0 : ((hn g .mk) == hn gx .mk) = false := zne
 have nxx_1 : ((hn g .mk + 1) == hn gx .mk) = false := zne
 try (rw [kq]; refine ⟨by simp -dsimp -implicitDefEqProofs only [go_sem, hoo, rx_0], ?_⟩)
 repeat (first | rw [ko] | rw [kr] | simp -dsimp -implicitDefEqProofs only [go_sem, hoo])
 refine wz_intro (copyLists_new (by omega)) ?_
 rintro sw gw ⟨lw, bw, ow, blw⟩
 have cw := OT.cell ow
 have nw := lw.1
 try simp only [hn_push, hn_set] at nw blw
 have rw_0 := lw.2 (hn g .mk) zau
 have rw_1 := lw.2 (hn g .mk + 1) zau
 simp -dsimp -implicitDefEqProofs only [go_sem, rx_0, rx_1] at rw_0 rw_1
 have Lw : g.le gw := H2.le.trans zale lw
 have Kw : ∀ {q a b : Nat}, a ≤ q ∧ q < b → hn g .mk + 1 + 1 ≤ a → b ≤ hn gx .mk → gw.get q = gx.get q := fun {q a b} h1 h2 h3 => by
  exact (show gw.get q = _ from lw.2 q zau).trans zfz
 replace om := om.frame fun q hq => Kw (blm.2 q hq) (by omega) (by omega)
 replace oe := oe.frame fun q hq => Kw (ble.2 q hq) (by omega) (by omega)
 replace o5 := o5.frame fun q hq => Kw (bl5.2 q hq) (by omega) (by omega)
 replace og := og.frame fun q hq => Kw (blg.2 q hq) (by omega) (by omega)
 replace oha := oha.frame fun q hq => Kw (blha.2 q hq) (by omega) (by omega)
 replace ohb := ohb.frame fun q hq => Kw (blhb.2 q hq) (by omega) (by omega)
 replace ox := ox.frame fun q hq => Kw (blx.2 q hq) (by omega) (by omega)
 have nxw_0 : ((hn g .mk) == hn gw .mk) = false := zne
 have nxw_1 : ((hn g .mk + 1) == hn gw .mk) = false := zne
 try (rw [kq]; refine ⟨zsm, ?_⟩)
 repeat (first | rw [ko] | rw [kr] | simp -dsimp -implicitDefEqProofs only [go_sem, rq1, rq2, hoo, ne4, rw_0, rw_1, hv, cm, ce, cg, cha, chb, cx, cw])
 refine ⟨zale, _, bm ++ (be ++ (b5 ++ (bg ++ (bha ++ (bhb ++ (bx ++ bw)))))), rfl, ?_, ?_⟩
 ·exact outModel (c := c) (by repeat (first | exact om | refine OT.setN ?_ blm (by omega))) (by repeat (first | exact oe | refine OT.setN ?_ ble (by omega))) (by repeat (first | exact o5 | refine OT.setN ?_ bl5 (by omega))) (by repeat (first | exact og | refine OT.setN ?_ blg (by omega))) (by repeat (first | exact oha | refine OT.setN ?_ blha (by omega))) (by repeat (first | exact ohb | refine OT.setN ?_ blhb (by omega))) (by repeat (first | exact ox | refine OT.setN ?_ blx (by omega))) (by repeat (first | exact ow | refine OT.setN ?_ blw (by omega)))
 ·simp only [hn_set]
  have hA := blm.append (ble.append (bl5.append (blg.append (blh.append (blx.append blw (by omega) (by omega)) (by omega) (by omega)) (by omega) (by omega)) (by omega) (by omega)) (by omega) (by omega)) (by omega) (by omega)
  simp only [List.append_assoc] at hA
  exact hA.wide (by omega) (Nat.le_refl _)
end Go.Bi
end
section
set_option maxRecDepth 20000
namespace Go.Bi
open Go.Proofs
open Go.Ai (wrap_i64 wrap_u8)
variable {W0 : World} {P : Program}
set_option maxHeartbeats 8000000
theorem copyParts_new {f : Adr} {zs : List LPart} {g : H2} (hs : szPartS zs ≤ 1048576) : NewT Tryz.prog W0 272 [.sl f 2 (rPartS zs)] g (.l 2 (rPartS zs)) := by
 have hl : zs.length ≤ 1048576 := by unfold szPartS at hs; omega
 refine begins [[0], [0], [0, 3], [0, 3, 4], [0, 3, 4], [0, 3, 4], [3]] Tryz.func272 rfl (rs := [.tmp 2]) rfl rfl ?_
 intro wf
 repeat (first | rw [ko] | rw [kr] | simp -dsimp -implicitDefEqProofs only [go_sem, rq1, rq2, rq3])
 refine lz_keep [0] (fun m e h' => ∃ (i : Nat) (v : X) (bs : List Nat), look e 4 .mk = .raw (.int .i64 (i : Nat)) ∧ look e 3 .mk = v ∧ m + i = zs.length ∧ g.le h' ∧ Gr (hn g .mk) h' v 2 i (((zs.take i).map ePart).flatten) bs) zs.length ?_ ?_
 ·exact ⟨0, _, [], zsm, by simp -dsimp -implicitDefEqProofs only [go_sem] <;> rfl, by omega, le_push (H2.le.refl _), Gr.empty (Nat.le_refl _)⟩
 rintro m e h' hks ⟨i, v, bs, ei, ev, hm, hle, gr⟩
 simp -dsimp -implicitDefEqProofs only [go_sem] at hks
 by_cases q1 : (i : Int) < (zs.length : Int)
 ·have q2 : i < zs.length := by omega
  have w1 := wrap_succ q2 (by omega)
  have hsl : szPart (zs.getD i default) ≤ sumN szPart zs := sumN_mem (f := szPart) (getD_mem q2)
  have hsz2 : szPartS zs = zs.length + sumN szPart zs := rfl
  have hv := Gr.cell gr
  have hp : (zs.getD i default).values.length ≤ 1048576 := by have : szPart (zs.getD i default) = (zs.getD i default).values.length := rfl; omega
  repeat (first | rw [ko] | rw [kr] | simp -dsimp -implicitDefEqProofs only [go_sem, rq1, hks, ei, ev, q1])
  refine dq_intro [(0, []), (1, []), (2, []), (3, []), (4, []), (5, []), (7, []), (8, []), (9, []), (10, []), (11, []), (6, [5, 11]), (12, [5]), (13, []), (14, []), (15, []), (16, [])] (by kernel_rfl) ?_
  repeat (first | rw [ko] | rw [kr] | simp -dsimp -implicitDefEqProofs only [go_sem, rq1, rq2, rq3, q2, hoo])
  refine app_ints hp ?_
  intro y g1 b1 l1 oy bl1
  have hy := OT.cell oy
  try (rw [kq]; refine ⟨zsm, ?_⟩)
  repeat (first | rw [ko] | rw [kr] | simp -dsimp -implicitDefEqProofs only [go_sem, rq1, rq2, rq3, rq4, hy])
  refine lit_intro (cs := [.raw (.int .i64 (zs.getD i default).shift), y]) rfl ?_
  intro w g2 hs2 l2
  try (rw [kq]; refine ⟨zsm, ?_⟩)
  repeat (first | rw [ko] | rw [kr] | simp -dsimp -implicitDefEqProofs only [go_sem, rq1])
  have o1 : OTs g1 b1 [.raw (.int .i64 (zs.getD i default).shift), y] (ePart (zs.getD i default)) := outPart (c := zs.getD i default) oy
  have gr1 := gr.keep (l1.trans l2)
  have hvl := gr.lt
  have ll1 := l1.1
  have ll2 := l2.1
  have ll0 := hle.1
  refine append_gr (P := Tryz.prog) (D := fun _ => none) (N := hn g .mk) (us := ePart (zs.getD i default)) Go.Ai.ty_el250 Go.Ai.ty_zr267 rfl Go.Ai.ty_cl250 gr1 hs2 (OTs.frame o1 fun q hq => by have := bl1.2 q hq; exact l2.2 q (by omega)) rfl (by omega) (fun b hb => by have := bl1.2 b hb; omega) bl1.1 (fun b hb hb' => by have := gr.bl b hb; have := bl1.2 b hb'; omega) (fun b e hb' => by have := hvl b e; have := bl1.2 b hb'; omega) (by have : Go.Ai.most = 1099511627776 := rfl; omega) ?_
  intro v' g3 gr3 nn3 le3 fr3
  have hv' := Gr.cell gr3
  try (rw [kq]; refine ⟨zsm, ?_⟩)
  repeat (first | rw [ko] | rw [kr] | simp -dsimp -implicitDefEqProofs only [go_sem, rq1, w1])
  refine nx_keep (m - 1) (by omega) zsm ⟨i + 1, v', _, zsm, zsm, by omega, le3 g (Nat.le_refl _) ((hle.trans l1).trans l2), (flat_next (E := ePart) q2).symm ▸ gr3⟩
 ·repeat (first | rw [ko] | rw [kr] | simp -dsimp -implicitDefEqProofs only [go_sem, rq1, hks, ei, ev, q1])
  have hi : i = zs.length := by omega
  rw [hi, List.take_length] at gr
  obtain ⟨bs', o', bl'⟩ := Gr.tree (es := rPartS zs) gr (by rw [rPartS_len]) (fun e he => by obtain ⟨x, _, rfl⟩ := List.mem_map.1 he; rfl)
  exact ⟨hle, bs', o', bl'⟩
end Go.Bi
end
section
set_option maxRecDepth 20000
namespace Go.Bi
open Go.Proofs
open Go.Ai (wrap_i64 wrap_u8)
variable {W0 : World} {P : Program}
set_option maxHeartbeats 8000000
theorem copyCell_new {F : Nat → Adr} {c : LCell} {g : H2} (hs : szCell c ≤ 1048576) : NewS Tryz.prog W0 256 [.st (xCell F c)] g (eCell c) := by
 have hsz : szCell c = (c.keys.length + sumN szPartS c.keys) + (c.values.length + sumN szPartS c.values) := rfl
 refine begins [[0], [1, 2], [1, 2, 3], [1, 2, 3, 4], [1, 2, 3, 4], [1, 2, 3, 4], [1, 2, 3], [1, 2, 3, 5], [1, 2, 3, 5], [1, 2, 3, 5], [2, 3]] Tryz.func256 rfl (rs := [.cell 2 176]) rfl rfl ?_
 intro wf
 have n01 : ((hn g .mk) == (hn g .mk + 1)) = false := zne
 have n02 : ((hn g .mk) == (hn g .mk + 1 + 1)) = false := zne
 have n10 : ((hn g .mk + 1) == (hn g .mk)) = false := zne
 have n12 : ((hn g .mk + 1) == (hn g .mk + 1 + 1)) = false := zne
 have n20 : ((hn g .mk + 1 + 1) == (hn g .mk)) = false := zne
 have n21 : ((hn g .mk + 1 + 1) == (hn g .mk + 1)) = false := zne
 repeat (first | rw [ko] | rw [kr] | simp -dsimp -implicitDefEqProofs only [go_sem, rq1, rq2, hoo])
 refine lz_keep [1, 2, 3] (fun m e h' => ∃ (i : Nat) (v : X) (bs : List Nat), look e 4 .mk = .raw (.int .i64 (i : Nat)) ∧ m + i = c.keys.length ∧ g.le h' ∧ hn g .mk + 3 ≤ hn h' .mk ∧ hg h' (hn g .mk) .mk = some ⟨2, [.sl (F 0) 1 (rPartSS c.keys), .sl (F 1) 1 (rPartSS c.values)]⟩ ∧ hg h' (hn g .mk + 1) .mk = some ⟨2, [.raw (.slice none 0 0), .raw (.slice none 0 0)]⟩ ∧ hg h' (hn g .mk + 1 + 1) .mk = some ⟨2, [v, .raw (.slice none 0 0)]⟩ ∧ Gr (hn g .mk + 3) h' v 1 i (((c.keys.take i).map ePartS).flatten) bs) c.keys.length ?_ ?_
 ·exact ⟨0, .raw (.slice none 0 0), [], zsm, by omega, zale, by simp only [hn_push, hn_set]; omega, by simp -dsimp -implicitDefEqProofs only [go_sem, hoo, n01, n02] <;> rfl, by simp -dsimp -implicitDefEqProofs only [go_sem, hoo, n12] <;> rfl, by simp -dsimp -implicitDefEqProofs only [go_sem, hoo] <;> rfl, Gr.nil⟩
 rintro m e h' hks ⟨i, v, bs, ei, hm, hle, hnn, r1, r2, r3, gr⟩
 simp -dsimp -implicitDefEqProofs only [go_sem] at hks
 by_cases q1 : (i : Int) < (c.keys.length : Int)
 ·skip
  have q2 : i < c.keys.length := by omega
  have w1 := wrap_succ q2 (by omega)
  have hv := Gr.cell gr
  have hsl : szPartS (c.keys.getD i default) ≤ sumN szPartS c.keys := sumN_mem (f := szPartS) (getD_mem q2)
  repeat (first | rw [ko] | rw [kr] | simp -dsimp -implicitDefEqProofs only [go_sem, rq1, hks, ei, q1, hoo, r1])
  refine dq_intro [(0, []), (1, []), (2, []), (3, []), (4, []), (5, []), (6, []), (7, [1]), (8, [1]), (9, []), (10, []), (11, [])] (by kernel_rfl) ?_
  repeat (first | rw [ko] | rw [kr] | simp -dsimp -implicitDefEqProofs only [go_sem, rq1, hoo, r1, r3, q2])
  refine wz_intro (copyParts_new (f := under (under (F 0) i) 0) (zs := c.keys.getD i default) (by omega)) ?_
  rintro y g1 ⟨l1, b1, o1, bl1⟩
  have hy := OT.cell o1
  have ll1 := l1.1
  have hvl := gr.lt
  have ra0 := (l1.2 (hn g .mk) zau).trans r1
  have ra1 := (l1.2 (hn g .mk + 1) zau).trans r2
  have ra2 := (l1.2 (hn g .mk + 1 + 1) zau).trans r3
  try (rw [kq]; refine ⟨by simp -dsimp -implicitDefEqProofs only [go_sem, rq1, hoo, ra2], ?_⟩)
  repeat (first | rw [ko] | rw [kr] | simp -dsimp -implicitDefEqProofs only [go_sem, rq3, hoo, hy])
  refine lit_intro (cs := [y]) rfl ?_
  intro w g2 hs2 l2
  have ll2 := l2.1
  have rb0 := (l2.2 (hn g .mk) zau).trans ra0
  have rb1 := (l2.2 (hn g .mk + 1) zau).trans ra1
  have rb2 := (l2.2 (hn g .mk + 1 + 1) zau).trans ra2
  try (rw [kq]; refine ⟨by simp -dsimp -implicitDefEqProofs only [go_sem, rq1, hoo, rb2], ?_⟩)
  repeat (first | rw [ko] | rw [kr] | simp -dsimp -implicitDefEqProofs only [go_sem, rq1, hoo])
  refine append_gr (P := Tryz.prog) (D := fun _ => none) (N := hn g .mk + 3) (us := [.l 2 (rPartS (c.keys.getD i default))]) Go.Ai.ty_el174 Go.Ai.ty_zr250 rfl Go.Ai.ty_cl174 (gr.keep (l1.trans l2)) hs2 (OTs.one (o1.frame fun q hq => by have := bl1.2 q hq; exact l2.2 q (by omega))) rfl (by omega) (fun b hb => by have := bl1.2 b hb; omega) bl1.1 (fun b hb hb' => by have := gr.bl b hb; have := bl1.2 b hb'; omega) (fun b e hb' => by have := hvl b e; have := bl1.2 b hb'; omega) (by have : Go.Ai.most = 1099511627776 := rfl; omega) ?_
  intro v' g3 gr3 nn3 le3 fr3
  have hv' := Gr.cell gr3
  have rc0 := (fr3 (hn g .mk) zau (fun e => by have := hvl _ e; omega)).trans rb0
  have rc1 := (fr3 (hn g .mk + 1) zau (fun e => by have := hvl _ e; omega)).trans rb1
  have rc2 := (fr3 (hn g .mk + 1 + 1) zau (fun e => by have := hvl _ e; omega)).trans rb2
  try (rw [kq]; refine ⟨zsm, ?_⟩)
  repeat (first | rw [ko] | rw [kr] | simp -dsimp -implicitDefEqProofs only [go_sem, rq1, hoo, rc2, w1, hv'])
  refine nx_keep (m - 1) (by omega) zsm ⟨i + 1, v', _, zsm, by omega, le_set (le3 g (by omega) ((hle.trans l1).trans l2)) (by omega), by simp only [hn_set]; omega, by simp -dsimp -implicitDefEqProofs only [go_sem, rc0, n02] <;> rfl, by simp -dsimp -implicitDefEqProofs only [go_sem, rc1, n12] <;> rfl, by simp -dsimp -implicitDefEqProofs only [go_sem, hoo] <;> rfl, (flat_next (E := ePartS) q2).symm ▸ Gr.setB gr3 (by omega)⟩
 have hi : i = c.keys.length := by omega
 rw [hi, List.take_length] at gr
 have hv := Gr.cell gr
 obtain ⟨bA, oA, blA⟩ := Gr.tree (es := rPartSS c.keys) gr (by rw [rPartSS_len]) (fun e he => by obtain ⟨x, _, rfl⟩ := List.mem_map.1 he; rfl)
 repeat (first | rw [ko] | rw [kr] | simp -dsimp -implicitDefEqProofs only [go_sem, rq1, hks, ei, q1, r1, hoo])
 clear ei q1 hi gr hm
 have vA := v
 refine lz_keep [1, 2, 3] (fun m2 e2 h2 => ∃ (i : Nat) (v2 : X) (bs : List Nat), look e2 5 .mk = .raw (.int .i64 (i : Nat)) ∧ m2 + i = c.values.length ∧ hn h' .mk ≤ hn h2 .mk ∧ (∀ b, b < hn h' .mk → b ≠ hn g .mk + 1 + 1 → hg h2 b .mk = hg h' b .mk) ∧ hg h2 (hn g .mk + 1 + 1) .mk = some ⟨2, [v, v2]⟩ ∧ Gr (hn h' .mk) h2 v2 1 i (((c.values.take i).map ePartS).flatten) bs) c.values.length ?_ ?_
 ·exact ⟨0, .raw (.slice none 0 0), [], zsm, by omega, Nat.le_refl _, fun _ _ _ => rfl, by simp -dsimp -implicitDefEqProofs only [go_sem, r3] <;> rfl, Gr.nil⟩
 rintro m2 e2 h2 hks2 ⟨i, v2, bs2, ei, hm, hn2, fr2, r3', gr⟩
 simp -dsimp -implicitDefEqProofs only [go_sem] at hks2
 have r1' := (fr2 (hn g .mk) (by omega) (by omega)).trans r1
 have r2' := (fr2 (hn g .mk + 1) (by omega) (by omega)).trans r2
 by_cases q1 : (i : Int) < (c.values.length : Int)
 ·skip
  have q2 : i < c.values.length := by omega
  have w1 := wrap_succ q2 (by omega)
  have hv := Gr.cell gr
  have hsl : szPartS (c.values.getD i default) ≤ sumN szPartS c.values := sumN_mem (f := szPartS) (getD_mem q2)
  repeat (first | rw [ko] | rw [kr] | simp -dsimp -implicitDefEqProofs only [go_sem, rq1, hks2, ei, q1, hoo, r1'])
  refine dq_intro [(0, []), (1, []), (2, []), (3, []), (4, []), (5, []), (6, []), (7, [1]), (8, [1]), (9, []), (10, []), (11, [])] (by kernel_rfl) ?_
  repeat (first | rw [ko] | rw [kr] | simp -dsimp -implicitDefEqProofs only [go_sem, rq1, hoo, r1', r3', q2])
  refine wz_intro (copyParts_new (f := under (under (F 1) i) 0) (zs := c.values.getD i default) (by omega)) ?_
  rintro y g1 ⟨l1, b1, o1, bl1⟩
  have hy := OT.cell o1
  have ll1 := l1.1
  have hvl := gr.lt
  have ra0 := (l1.2 (hn g .mk) zau).trans r1'
  have ra1 := (l1.2 (hn g .mk + 1) zau).trans r2'
  have ra2 := (l1.2 (hn g .mk + 1 + 1) zau).trans r3'
  try (rw [kq]; refine ⟨by simp -dsimp -implicitDefEqProofs only [go_sem, rq1, hoo, ra2], ?_⟩)
  repeat (first | rw [ko] | rw [kr] | simp -dsimp -implicitDefEqProofs only [go_sem, rq3, hoo, hy])
  refine lit_intro (cs := [y]) rfl ?_
  intro w g2 hs2 l2
  have ll2 := l2.1
  have rb0 := (l2.2 (hn g .mk) zau).trans ra0
  have rb1 := (l2.2 (hn g .mk + 1) zau).trans ra1
  have rb2 := (l2.2 (hn g .mk + 1 + 1) zau).trans ra2
  try (rw [kq]; refine ⟨by simp -dsimp -implicitDefEqProofs only [go_sem, rq1, hoo, rb2], ?_⟩)
  repeat (first | rw [ko] | rw [kr] | simp -dsimp -implicitDefEqProofs only [go_sem, rq1, hoo])
  refine append_gr (P := Tryz.prog) (D := fun _ => none) (N := hn h' .mk) (us := [.l 2 (rPartS (c.values.getD i default))]) Go.Ai.ty_el174 Go.Ai.ty_zr250 rfl Go.Ai.ty_cl174 (gr.keep (l1.trans l2)) hs2 (OTs.one (o1.frame fun q hq => by have := bl1.2 q hq; exact l2.2 q (by omega))) rfl (by omega) (fun b hb => by have := bl1.2 b hb; omega) bl1.1 (fun b hb hb' => by have := gr.bl b hb; have := bl1.2 b hb'; omega) (fun b e hb' => by have := hvl b e; have := bl1.2 b hb'; omega) (by have : Go.Ai.most = 1099511627776 := rfl; omega) ?_
  intro v' g3 gr3 nn3 le3 fr3
  have hv' := Gr.cell gr3
  have rc0 := (fr3 (hn g .mk) zau (fun e => by have := hvl _ e; omega)).trans rb0
  have rc1 := (fr3 (hn g .mk + 1) zau (fun e => by have := hvl _ e; omega)).trans rb1
  have rc2 := (fr3 (hn g .mk + 1 + 1) zau (fun e => by have := hvl _ e; omega)).trans rb2
  try (rw [kq]; refine ⟨zsm, ?_⟩)
  repeat (first | rw [ko] | rw [kr] | simp -dsimp -implicitDefEqProofs only [go_sem, rq1, hoo, rc2, w1, hv'])
  refine nx_keep (m2 - 1) (by omega) zsm ⟨i + 1, v', _, zsm, by omega, by simp only [hn_set]; omega, fun b h1 h3 => ?_, by simp -dsimp -implicitDefEqProofs only [go_sem, hoo] <;> rfl, (flat_next (E := ePartS) q2).symm ▸ Gr.setB gr3 (by omega)⟩
  rw [hg_set, show (b == hn g .mk + 1 + 1) = false by simp [h3]]
  exact ((fr3 b (by omega) (fun e => by have := hvl _ e; omega)).trans ((l2.2 b (by omega)).trans (l1.2 b (by omega)))).trans (fr2 b h1 h3)
 have hi : i = c.values.length := by omega
 rw [hi, List.take_length] at gr
 have hv2 := Gr.cell gr
 obtain ⟨bB, oB, blB⟩ := Gr.tree (es := rPartSS c.values) gr (by rw [rPartSS_len]) (fun e he => by obtain ⟨x, _, rfl⟩ := List.mem_map.1 he; rfl)
 repeat (first | rw [ko] | rw [kr] | simp -dsimp -implicitDefEqProofs only [go_sem, rq1, rq2, hks2, ei, q1, r1', r2', r3', hoo, hv, hv2])
 have hle2 : g.le h2 := ⟨by omega, fun b hb => (fr2 b (by omega) (by omega)).trans (hle.2 b hb)⟩
 refine ⟨le_set hle2 (by omega), _, bA ++ bB, rfl, outCell (c := c) ((oA.frame (g' := h2) fun q hq => by have := blA.2 q hq; exact fr2 q (by omega) (by omega)).setN blA (by omega)) (oB.setN blB (by omega)), ?_⟩
 simp only [hn_set]
 exact (blA.append blB (by omega) (by omega)).wide (by omega) (Nat.le_refl _)
theorem copyCells_new {f : Adr} {zs : List LCell} {g : H2} (hs : szCellS zs ≤ 1048576) : NewT Tryz.prog W0 229 [.sl f 2 (rCellS zs)] g (.l 2 (rCellS zs)) := by
 have hl : zs.length ≤ 1048576 := by unfold szCellS at hs; omega
 refine begins [[0], [0], [0, 3], [0, 3, 4], [0, 3, 4], [0, 3, 4], [3]] Tryz.func229 rfl (rs := [.tmp 2]) rfl rfl ?_
 intro wf
 repeat (first | rw [ko] | rw [kr] | simp -dsimp -implicitDefEqProofs only [go_sem, rq1, rq2, rq3])
 refine lz_keep [0] (fun m e h' => ∃ (i : Nat) (v : X) (bs : List Nat), look e 4 .mk = .raw (.int .i64 (i : Nat)) ∧ look e 3 .mk = v ∧ m + i = zs.length ∧ g.le h' ∧ Gr (hn g .mk) h' v 2 i (((zs.take i).map eCell).flatten) bs) zs.length ?_ ?_
 ·exact ⟨0, _, [], zsm, by simp -dsimp -implicitDefEqProofs only [go_sem] <;> rfl, by omega, le_push (H2.le.refl _), Gr.empty (Nat.le_refl _)⟩
 rintro m e h' hks ⟨i, v, bs, ei, ev, hm, hle, gr⟩
 simp -dsimp -implicitDefEqProofs only [go_sem] at hks
 by_cases q1 : (i : Int) < (zs.length : Int)
 ·have q2 : i < zs.length := by omega
  have w1 := wrap_succ q2 (by omega)
  have hsl : szCell (zs.getD i default) ≤ sumN szCell zs := sumN_mem (f := szCell) (getD_mem q2)
  have hsz2 : szCellS zs = zs.length + sumN szCell zs := rfl
  have hv := Gr.cell gr
  repeat (first | rw [ko] | rw [kr] | simp -dsimp -implicitDefEqProofs only [go_sem, rq1, rq2, rq3, hks, ei, ev, q1, q2, hoo])
  refine wz_intro (copyCell_new (F := fun j => under (under f i) j) (c := zs.getD i default) (by omega)) ?_
  rintro _ g1 ⟨l1', ys, b1, rfl, o1, bl1⟩
  obtain ⟨b0, s0, b2, s2, rfl, rfl, oa, ob⟩ := invCell o1
  have hy1 := OT.cell oa
  have hy2 := OT.cell ob
  have l1 : h'.le g1 := l1'
  have ll1' := l1'.1
  try simp only [hn_push] at bl1 ll1'
  repeat (first | rw [ko] | rw [kr] | simp -dsimp -implicitDefEqProofs only [go_sem, rq2, rq3, rq4])
  refine lit_intro (cs := [s0, s2]) rfl ?_
  intro w g2 hs2 l2
  repeat (first | rw [ko] | rw [kr] | simp -dsimp -implicitDefEqProofs only [go_sem, rq1])
  have gr1 := gr.keep (l1.trans l2)
  have hvl := gr.lt
  have ll1 := l1.1
  have ll2 := l2.1
  have ll0 := hle.1
  refine append_gr (P := Tryz.prog) (D := fun _ => none) (N := hn g .mk) (us := eCell (zs.getD i default)) Go.Ai.ty_el171 Go.Ai.ty_zr176 rfl Go.Ai.ty_cl171 gr1 hs2 (OTs.frame o1 fun q hq => by have := bl1.2 q hq; exact l2.2 q (by omega)) rfl (by omega) (fun b hb => by have := bl1.2 b hb; omega) bl1.1 (fun b hb hb' => by have := gr.bl b hb; have := bl1.2 b hb'; omega) (fun b e hb' => by have := hvl b e; have := bl1.2 b hb'; omega) (by have : Go.Ai.most = 1099511627776 := rfl; omega) ?_
  intro v' g3 gr3 nn3 le3 fr3
  have hv' := Gr.cell gr3
  repeat (first | rw [ko] | rw [kr] | simp -dsimp -implicitDefEqProofs only [go_sem, rq1, w1])
  refine nx_keep (m - 1) (by omega) zsm ⟨i + 1, v', _, zsm, zsm, by omega, le3 g (Nat.le_refl _) ((hle.trans l1).trans l2), (flat_next (E := eCell) q2).symm ▸ gr3⟩
 ·repeat (first | rw [ko] | rw [kr] | simp -dsimp -implicitDefEqProofs only [go_sem, rq1, hks, ei, ev, q1])
  have hi : i = zs.length := by omega
  rw [hi, List.take_length] at gr
  obtain ⟨bs', o', bl'⟩ := Gr.tree (es := rCellS zs) gr (by rw [rCellS_len]) (fun e he => by obtain ⟨x, _, rfl⟩ := List.mem_map.1 he; rfl)
  exact ⟨hle, bs', o', bl'⟩
end Go.Bi
end
section
set_option maxRecDepth 20000
namespace Go.Bi
open Go.Proofs
open Go.Ai (wrap_i64 wrap_u8)
variable {W0 : World} {P : Program}
set_option maxHeartbeats 8000000
theorem flat_strsO {f : Adr} : ∀ {zs : List ByteArray} {i : Nat}, flatX f i (strs zs) = zs.map cS
 | [], _ => rfl
 | z :: zs, i => by
  have h := flat_strsO (f := f) (zs := zs) (i := i + 1)
  show mkL (under f i) 0 (eS z) ++ flatX f (i + 1) (strs zs) = _
  rw [h]; rfl
theorem app_strsN {D : Nat → Option (List Nat)} {g : H2} {K : KT} {N : Nat} {zs : List ByteArray} {x : X} {f : Adr} (hx : Own N g x 1 0 []) (hN0 : N ≤ hn g .mk) (hs : zs.length ≤ 1048576)
  (hk : ∀ v' g', OwnS N g' v' zs → hn g .mk ≤ hn g' .mk → (∀ g0 : H2, hn g0 .mk ≤ N → g0.le g → g0.le g') → kz K v' g' .mk) :
  az (biz Tryz.prog g .append [47, 47] [x, .sl f 1 (strs zs)] .mk) K .mk := by
 refine append_own (z := 0) (N := N) (m := zs.length) (news := zs.map cS) Go.Ai.ty_el47 Go.Ai.ty_zr9 rfl Go.Ai.ty_cl47 hx hN0 ?_ (by simp) (by simp [okX]) (by have : Go.Ai.most = 1099511627776 := rfl; omega) ?_
 ·simp only [srcX, if_true, strs_len, flat_strsO]
 intro v' g' o h1 h2 _
 refine hk v' g' ?_ h1 h2
 unfold OwnS
 simp only [List.nil_append, Nat.zero_add] at o
 exact o
theorem app_strs {f : Adr} {h : H2} {K : KT} {zs : List ByteArray} (hs : zs.length ≤ 1048576) (hk : ∀ y g' b, h.le g' → OT g' b y (.l 1 (strs zs)) → Bl (hn h .mk) (hn g' .mk) b → kz K y g' .mk) :
  az (biz Tryz.prog (h.push ⟨1, []⟩) .append [47, 47] [.raw (.slice (some ⟨hn h .mk, 0, none⟩) 0 0), .sl f 1 (strs zs)] .mk) K .mk := by
 refine app_strsN (D := fun _ => none) (N := hn h .mk) (Own.new (Nat.le_refl _) rfl) (by simp only [hn_push]; omega) hs ?_
 intro v' g' o h1 h2
 obtain ⟨b, ot, bl⟩ := OwnS.tree o
 exact hk v' g' b (h2 h (Nat.le_refl _) (H2.le_push1 h _)) ot bl
theorem cloneS_new {f : Adr} {zs : List ByteArray} {g : H2} (hs : zs.length ≤ 1048576) : NewT Tryz.prog W0 232 [.sl f 1 (strs zs)] g (.l 1 (strs zs)) := by
 refine WC2.asm fun hp s o => ?_
 have hnil := nil_of (o _ List.mem_cons_self)
 refine begins [[0], [0], [], [0]] Tryz.func232 rfl (rs := [.tmp 2]) rfl rfl ?_
 intro wf
 repeat (first | rw [ko] | rw [kr] | simp -dsimp -implicitDefEqProofs only [go_sem])
 refine gz_intro (fun h1 => ?_) (fun h1 => ?_)
 ·have : zs = [] := by have := hnil h1; simpa [strs] using this
  subst this
  repeat (first | rw [ko] | rw [kr] | simp -dsimp -implicitDefEqProofs only [go_sem])
  exact ⟨H2.le.refl _, [], .nil, .nil⟩
 ·repeat (first | rw [ko] | rw [kr] | simp -dsimp -implicitDefEqProofs only [go_sem, rq1, rq3])
  refine app_strs hs ?_
  intro y g' b l o bl
  repeat (first | rw [ko] | rw [kr] | simp -dsimp -implicitDefEqProofs only [go_sem])
  exact ⟨l, b, o, bl⟩
theorem copyConfig_new {F : Nat → Adr} {c : LConfig} {g : H2} (hs : szConfig c ≤ 1048576) : NewS Tryz.prog W0 110 [.st (xConfig F c)] g (eConfig c) := by
 unfold szConfig at hs
 refine begins [[0], [1, 2], [1, 2]] Tryz.func110 rfl (rs := [.cell 2 49]) rfl rfl ?_
 intro wf
 have ne1 : (hn g .mk == hn g .mk + 1) = false := by simp
 have ne2 : (hn g .mk + 1 == hn g .mk) = false := by simp
 have ne3 : (hn g .mk == hn g .mk + 1 + 1) = false := zne
 have ne4 : (hn g .mk + 1 == hn g .mk + 1 + 1) = false := by simp
 repeat (first | rw [ko] | rw [kr] | simp -dsimp -implicitDefEqProofs only [go_sem, rq3, hoo, ne1, ne3])
 refine app_strs (by omega) ?_
 intro y g1 b1 l1 o1 bl1
 have hy := OT.cell o1
 have n1 := l1.1
 try simp only [hn_push] at n1 bl1
 have r1 := l1.2 (hn g .mk) zau
 have r2 := l1.2 (hn g .mk + 1) zau
 simp -dsimp -implicitDefEqProofs only [go_sem, hoo, ne1] at r1 r2
 repeat (first | rw [ko] | rw [kr] | simp -dsimp -implicitDefEqProofs only [go_sem, rq1, rq2, hoo, ne2, r1, r2, hy])
 have L1 : g.le g1 := H2.le.trans (le_push (le_push (H2.le.refl _))) l1
 refine ⟨zale, _, b1, rfl, outConfig (c := c) (by repeat (first | exact o1 | refine OT.setN ?_ bl1 (by omega))), ?_⟩
 simp only [hn_set]
 exact bl1.wide (by omega) (Nat.le_refl _)
theorem cloneConfig_new {F : Nat → Adr} {c : LConfig} {g : H2} (hs : szConfig c ≤ 1048576) : NewS Tryz.prog W0 190 [.st (xConfig F c)] g (eConfig c) := by
 unfold szConfig at hs
 refine begins [[0], [1, 2], [1, 2]] Tryz.func190 rfl (rs := [.cell 2 49]) rfl rfl ?_
 intro wf
 have ne1 : (hn g .mk == hn g .mk + 1) = false := by simp
 have ne2 : (hn g .mk + 1 == hn g .mk) = false := by simp
 have ne3 : (hn g .mk == hn g .mk + 1 + 1) = false := zne
 have ne4 : (hn g .mk + 1 == hn g .mk + 1 + 1) = false := by simp
 repeat (first | rw [ko] | rw [kr] | simp -dsimp -implicitDefEqProofs only [go_sem, hoo, ne1])
 refine wz_intro (cloneS_new (by omega)) ?_
 rintro y g1 ⟨l1, b1, o1, bl1⟩
 have hy := OT.cell o1
 have n1 := l1.1
 try simp only [hn_push] at n1 bl1
 have r1 := l1.2 (hn g .mk) zau
 have r2 := l1.2 (hn g .mk + 1) zau
 simp -dsimp -implicitDefEqProofs only [go_sem, hoo, ne1] at r1 r2
 repeat (first | rw [ko] | rw [kr] | simp -dsimp -implicitDefEqProofs only [go_sem, rq1, rq2, hoo, ne2, r1, r2, hy])
 have L1 : g.le g1 := H2.le.trans (le_push (le_push (H2.le.refl _))) l1
 refine ⟨zale, _, b1, rfl, outConfig (c := c) (by repeat (first | exact o1 | refine OT.setN ?_ bl1 (by omega))), ?_⟩
 simp only [hn_set]
 exact bl1.wide (by omega) (Nat.le_refl _)
theorem copyTable_new {F : Nat → Adr} {c : LTable} {g : H2} (hs : szTable c ≤ 1048576) : NewS Tryz.prog W0 187 [.st (xTable F c)] g (eTable c) := by
 unfold szTable at hs
 refine begins [[0], [1, 2]] Tryz.func187 rfl (rs := [.cell 2 100]) rfl rfl ?_
 intro wf
 have ne1 : (hn g .mk == hn g .mk + 1) = false := by simp
 have ne2 : (hn g .mk + 1 == hn g .mk) = false := by simp
 have ne3 : (hn g .mk == hn g .mk + 1 + 1) = false := zne
 have ne4 : (hn g .mk + 1 == hn g .mk + 1 + 1) = false := by simp
 repeat (first | rw [ko] | rw [kr] | simp -dsimp -implicitDefEqProofs only [go_sem, hoo])
 refine dq_intro [(1, []), (2, []), (4, []), (5, []), (0, [2, 5]), (3, [5]), (6, []), (7, [])] (by kernel_rfl) ?_
 repeat (first | rw [ko] | rw [kr] | simp -dsimp -implicitDefEqProofs only [go_sem, rq1, rq3, hoo, ne1, ne3])
 refine app_ints hs ?_
 intro y g1 b1 l1 o1 bl1
 have hy := OT.cell o1
 have n1 := l1.1
 try simp only [hn_push] at n1 bl1
 have r1 := l1.2 (hn g .mk) zau
 have r2 := l1.2 (hn g .mk + 1) zau
 simp -dsimp -implicitDefEqProofs only [go_sem, hoo, ne1] at r1 r2
 try (rw [kq]; refine ⟨by simp -dsimp -implicitDefEqProofs only [go_sem, rq1, hoo, r1], ?_⟩)
 repeat (first | rw [ko] | rw [kr] | simp -dsimp -implicitDefEqProofs only [go_sem, rq1, rq2, hoo, r2, hy])
 have L1 : g.le g1 := H2.le.trans (le_push (le_push (H2.le.refl _))) l1
 refine ⟨zale, _, b1, rfl, outTable (c := c) (by repeat (first | exact o1 | refine OT.setN ?_ bl1 (by omega))), ?_⟩
 simp only [hn_set]
 exact bl1.wide (by omega) (Nat.le_refl _)
theorem cloneTable_new {F : Nat → Adr} {c : LTable} {g : H2} (hs : szTable c ≤ 1048576) : NewS Tryz.prog W0 191 [.st (xTable F c)] g (eTable c) := by
 unfold szTable at hs
 refine begins [[0], [1, 2]] Tryz.func191 rfl (rs := [.cell 2 100]) rfl rfl ?_
 intro wf
 have ne1 : (hn g .mk == hn g .mk + 1) = false := by simp
 have ne2 : (hn g .mk + 1 == hn g .mk) = false := by simp
 have ne3 : (hn g .mk == hn g .mk + 1 + 1) = false := zne
 have ne4 : (hn g .mk + 1 == hn g .mk + 1 + 1) = false := by simp
 repeat (first | rw [ko] | rw [kr] | simp -dsimp -implicitDefEqProofs only [go_sem, hoo])
 refine dq_intro [(0, []), (1, []), (3, []), (4, []), (2, [4]), (5, []), (6, [])] (by kernel_rfl) ?_
 repeat (first | rw [ko] | rw [kr] | simp -dsimp -implicitDefEqProofs only [go_sem, hoo, ne1])
 refine wz_intro (cloneI_new hs) ?_
 rintro y g1 ⟨l1, b1, o1, bl1⟩
 have hy := OT.cell o1
 have n1 := l1.1
 try simp only [hn_push] at n1 bl1
 have r1 := l1.2 (hn g .mk) zau
 have r2 := l1.2 (hn g .mk + 1) zau
 simp -dsimp -implicitDefEqProofs only [go_sem, hoo, ne1] at r1 r2
 try (rw [kq]; refine ⟨by simp -dsimp -implicitDefEqProofs only [go_sem, hoo, r1], ?_⟩)
 repeat (first | rw [ko] | rw [kr] | simp -dsimp -implicitDefEqProofs only [go_sem, rq1, rq2, hoo, r2, hy])
 have L1 : g.le g1 := H2.le.trans (le_push (le_push (H2.le.refl _))) l1
 refine ⟨zale, _, b1, rfl, outTable (c := c) (by repeat (first | exact o1 | refine OT.setN ?_ bl1 (by omega))), ?_⟩
 simp only [hn_set]
 exact bl1.wide (by omega) (Nat.le_refl _)
end Go.Bi
end
section
set_option maxRecDepth 20000
namespace Go.Bi
open Go.Proofs
open Go.Ai (wrap_i64 wrap_u8)
variable {W0 : World} {P : Program}
set_option maxHeartbeats 8000000
theorem copyStore_new {F : Nat → Adr} {c : LStore} {g : H2} (hs : szStore c ≤ 1048576) : NewS Tryz.prog W0 186 [.st (xStore F c)] g (eStore c) := by
 have hsz : szStore c = c.refs.length + (c.pages.length + sumN szCellS c.pages) := rfl
 refine begins [[0], [1, 2], [1, 2, 3], [1, 2, 3, 4], [1, 2, 3, 4], [1, 2, 3, 4], [2, 3]] Tryz.func186 rfl (rs := [.cell 2 38]) rfl rfl ?_
 intro wf
 have n01 : ((hn g .mk) == (hn g .mk + 1)) = false := zne
 have n10 : ((hn g .mk + 1) == (hn g .mk)) = false := zne
 have n0x : ((hn g .mk) == hn g .mk + 1 + 1) = false := zne
 have n1x : ((hn g .mk + 1) == hn g .mk + 1 + 1) = false := by simp
 repeat (first | rw [ko] | rw [kr] | simp -dsimp -implicitDefEqProofs only [go_sem, rq3, hoo, n01, n0x])
 refine app_ints (by omega) ?_
 intro sq gq bq lq oq blq
 have hq := OT.cell oq
 have nq := lq.1
 try simp only [hn_push] at nq blq
 have s1 := lq.2 (hn g .mk) zau
 have s2 := lq.2 (hn g .mk + 1) zau
 simp -dsimp -implicitDefEqProofs only [go_sem, hoo, n01] at s1 s2
 have n02 : ((hn g .mk) == (hn gq .mk)) = false := zne
 have n12 : ((hn g .mk + 1) == (hn gq .mk)) = false := zne
 have n20 : ((hn gq .mk) == (hn g .mk)) = false := zne
 have n21 : ((hn gq .mk) == (hn g .mk + 1)) = false := zne
 have Lq : g.le gq := H2.le.trans (le_push (le_push (H2.le.refl _))) lq
 repeat (first | rw [ko] | rw [kr] | simp -dsimp -implicitDefEqProofs only [go_sem, rq1, rq2, hoo, hq])
 refine lz_keep [1, 2, 3] (fun m e h' => ∃ (i : Nat) (v : X) (bs : List Nat), look e 4 .mk = .raw (.int .i64 (i : Nat)) ∧ m + i = c.pages.length ∧ gq.le h' ∧ hn gq .mk + 1 ≤ hn h' .mk ∧ hg h' (hn gq .mk) .mk = some ⟨2, [sq, v]⟩ ∧ Gr (hn gq .mk + 1) h' v 1 i (((c.pages.take i).map eCellS).flatten) bs) c.pages.length ?_ ?_
 ·exact ⟨0, .raw (.slice none 0 0), [], zsm, by omega, zale, by simp only [hn_push]; omega, by simp -dsimp -implicitDefEqProofs only [go_sem, hoo] <;> rfl, Gr.nil⟩
 rintro m e h' hks ⟨i, v, bs, ei, hm, hle, hnn, r3, gr⟩
 simp -dsimp -implicitDefEqProofs only [go_sem] at hks
 have r1 := (hle.2 (hn g .mk) (by omega)).trans s1
 have r2 := (hle.2 (hn g .mk + 1) (by omega)).trans s2
 by_cases q1 : (i : Int) < (c.pages.length : Int)
 ·skip
  have q2 : i < c.pages.length := by omega
  have w1 := wrap_succ q2 (by omega)
  have hv := Gr.cell gr
  have hsl : szCellS (c.pages.getD i default) ≤ sumN szCellS c.pages := sumN_mem (f := szCellS) (getD_mem q2)
  repeat (first | rw [ko] | rw [kr] | simp -dsimp -implicitDefEqProofs only [go_sem, rq1, hks, ei, q1, hoo, r1])
  refine dq_intro [(0, []), (1, []), (2, []), (3, []), (4, []), (5, []), (6, []), (7, [1]), (8, [1]), (9, []), (10, []), (11, [])] (by kernel_rfl) ?_
  repeat (first | rw [ko] | rw [kr] | simp -dsimp -implicitDefEqProofs only [go_sem, rq1, hoo, r1, r3, q2])
  refine wz_intro (copyCells_new (f := under (under (F 1) i) 0) (zs := c.pages.getD i default) (by omega)) ?_
  rintro y g1 ⟨l1, b1, o1, bl1⟩
  have hy := OT.cell o1
  have ll1 := l1.1
  have hvl := gr.lt
  have ra0 := (l1.2 (hn g .mk) zau).trans r1
  have ra1 := (l1.2 (hn g .mk + 1) zau).trans r2
  have ra2 := (l1.2 (hn gq .mk) zau).trans r3
  try (rw [kq]; refine ⟨by simp -dsimp -implicitDefEqProofs only [go_sem, rq1, hoo, ra2], ?_⟩)
  repeat (first | rw [ko] | rw [kr] | simp -dsimp -implicitDefEqProofs only [go_sem, rq3, hoo, hy])
  refine lit_intro (cs := [y]) rfl ?_
  intro w g2 hs2 l2
  have ll2 := l2.1
  have rb0 := (l2.2 (hn g .mk) zau).trans ra0
  have rb1 := (l2.2 (hn g .mk + 1) zau).trans ra1
  have rb2 := (l2.2 (hn gq .mk) zau).trans ra2
  try (rw [kq]; refine ⟨by simp -dsimp -implicitDefEqProofs only [go_sem, rq1, hoo, rb2], ?_⟩)
  repeat (first | rw [ko] | rw [kr] | simp -dsimp -implicitDefEqProofs only [go_sem, rq1, hoo])
  refine append_gr (P := Tryz.prog) (D := fun _ => none) (N := hn gq .mk + 1) (us := [.l 2 (rCellS (c.pages.getD i default))]) Go.Ai.ty_el36 Go.Ai.ty_zr171 rfl Go.Ai.ty_cl36 (gr.keep (l1.trans l2)) hs2 (OTs.one (o1.frame fun q hq => by have := bl1.2 q hq; exact l2.2 q (by omega))) rfl (by omega) (fun b hb => by have := bl1.2 b hb; omega) bl1.1 (fun b hb hb' => by have := gr.bl b hb; have := bl1.2 b hb'; omega) (fun b e hb' => by have := hvl b e; have := bl1.2 b hb'; omega) (by have : Go.Ai.most = 1099511627776 := rfl; omega) ?_
  intro v' g3 gr3 nn3 le3 fr3
  have hv' := Gr.cell gr3
  have rc0 := (fr3 (hn g .mk) zau (fun e => by have := hvl _ e; omega)).trans rb0
  have rc1 := (fr3 (hn g .mk + 1) zau (fun e => by have := hvl _ e; omega)).trans rb1
  have rc2 := (fr3 (hn gq .mk) zau (fun e => by have := hvl _ e; omega)).trans rb2
  try (rw [kq]; refine ⟨zsm, ?_⟩)
  repeat (first | rw [ko] | rw [kr] | simp -dsimp -implicitDefEqProofs only [go_sem, rq1, hoo, rc2, w1, hv'])
  refine nx_keep (m - 1) (by omega) zsm ⟨i + 1, v', _, zsm, by omega, le_set (le3 gq (by omega) ((hle.trans l1).trans l2)) (Nat.le_refl _), by simp only [hn_set]; omega, by simp -dsimp -implicitDefEqProofs only [go_sem, hoo] <;> rfl, (flat_next (E := eCellS) q2).symm ▸ Gr.setB gr3 (by omega)⟩
 have hi : i = c.pages.length := by omega
 rw [hi, List.take_length] at gr
 have hv := Gr.cell gr
 obtain ⟨bA, oA, blA⟩ := Gr.tree (es := rCellSS c.pages) gr (by rw [rCellSS_len]) (fun e he => by obtain ⟨x, _, rfl⟩ := List.mem_map.1 he; rfl)
 repeat (first | rw [ko] | rw [kr] | simp -dsimp -implicitDefEqProofs only [go_sem, rq1, rq2, hks, ei, q1, r1, r2, r3, hoo, hv, hq])
 have Lh := Lq.trans hle
 refine ⟨le_set Lh (by omega), _, bq ++ bA, rfl, outStore (c := c) ((oq.keep hle (blq.wide (Nat.zero_le _) (Nat.le_refl _))).setN blq (by omega)) (oA.setN blA (by omega)), ?_⟩
 simp only [hn_set]
 exact (blq.append (blA.wide (N' := hn gq .mk) (by omega) (Nat.le_refl _)) (by omega) (by omega)).wide (by omega) (Nat.le_refl _)
end Go.Bi
end
section
set_option maxRecDepth 20000
namespace Go.Bi
open Go.Proofs
open Go.Ai (wrap_i64 wrap_u8)
variable {W0 : World} {P : Program}
set_option maxHeartbeats 4000000
theorem invEngine3 {g : H2} {bs : List Nat} {ys : List X} {c : LEngine} (o : OTs g bs ys (eEngine c)) : ∃ s3 s4 s5 s6 s8 s9 s12 s13 s14 s15 s16 bM b14 b15 b16, ys = [.raw (.int .i64 c.model.dim), .raw (.int .i64 c.model.heads), .raw (.int .i64 c.model.context), s3, s4, s5, s6, .raw (.int .i64 c.model.head.width), s8, s9, .raw (.int .i64 c.model.head.mul), .raw (.int .i64 c.model.head.shift), s12, s13, s14, s15, s16] ∧ bs = bM ++ (b14 ++ (b15 ++ b16)) ∧ OTs g bM [.raw (.int .i64 c.model.dim), .raw (.int .i64 c.model.heads), .raw (.int .i64 c.model.context), s3, s4, s5, s6, .raw (.int .i64 c.model.head.width), s8, s9, .raw (.int .i64 c.model.head.mul), .raw (.int .i64 c.model.head.shift), s12, s13] (eModel c.model) ∧ OT g b14 s14 (.l 1 (ints c.store.refs)) ∧ OT g b15 s15 (.l 1 (rCellSS c.store.pages)) ∧ OT g b16 s16 (.l 10 (rRequestS c.requests)) := by
 obtain ⟨b3, s3, b4, s4, b5, s5, b6, s6, b8, s8, b9, s9, b12, s12, b13, s13, b14, s14, b15, s15, b16, s16, rfl, rfl, o3, o4, o5, o6, o8, o9, o12, o13, o14, o15, o16⟩ := invEngine o
 exact ⟨s3, s4, s5, s6, s8, s9, s12, s13, s14, s15, s16, _, b14, b15, b16, rfl, by simp only [List.append_assoc], outModel (c := c.model) o3 o4 o5 o6 o8 o9 o12 o13, o14, o15, o16⟩
theorem outEngine3 {g : H2} {c : LEngine} {bM b14 b15 b16 : List Nat} {s3 s4 s5 s6 s8 s9 s12 s13 s14 s15 s16 : X} (oM : OTs g bM [.raw (.int .i64 c.model.dim), .raw (.int .i64 c.model.heads), .raw (.int .i64 c.model.context), s3, s4, s5, s6, .raw (.int .i64 c.model.head.width), s8, s9, .raw (.int .i64 c.model.head.mul), .raw (.int .i64 c.model.head.shift), s12, s13] (eModel c.model)) (o14 : OT g b14 s14 (.l 1 (ints c.store.refs))) (o15 : OT g b15 s15 (.l 1 (rCellSS c.store.pages))) (o16 : OT g b16 s16 (.l 10 (rRequestS c.requests))) : OTs g (bM ++ (b14 ++ (b15 ++ b16))) [.raw (.int .i64 c.model.dim), .raw (.int .i64 c.model.heads), .raw (.int .i64 c.model.context), s3, s4, s5, s6, .raw (.int .i64 c.model.head.width), s8, s9, .raw (.int .i64 c.model.head.mul), .raw (.int .i64 c.model.head.shift), s12, s13, s14, s15, s16] (eEngine c) := by
 have := oM.append (OTs.cons o14 (OTs.cons o15 (OTs.cons o16 OTs.nil)))
 simp only [List.append_nil] at this
 exact this
theorem OTs.cellM {g : H2} {bM : List Nat} {m : LModel} {s3 s4 s5 s6 s8 s9 s12 s13 : X} (o : OTs g bM [.raw (.int .i64 m.dim), .raw (.int .i64 m.heads), .raw (.int .i64 m.context), s3, s4, s5, s6, .raw (.int .i64 m.head.width), s8, s9, .raw (.int .i64 m.head.mul), .raw (.int .i64 m.head.shift), s12, s13] (eModel m)) : (cellsX s3 = some [s3] ∧ okX s3 = true ∧ isTpX s3 = false) ∧ (cellsX s4 = some [s4] ∧ okX s4 = true ∧ isTpX s4 = false) ∧ (cellsX s5 = some [s5] ∧ okX s5 = true ∧ isTpX s5 = false) ∧ (cellsX s6 = some [s6] ∧ okX s6 = true ∧ isTpX s6 = false) ∧ (cellsX s8 = some [s8] ∧ okX s8 = true ∧ isTpX s8 = false) ∧ (cellsX s9 = some [s9] ∧ okX s9 = true ∧ isTpX s9 = false) ∧ (cellsX s12 = some [s12] ∧ okX s12 = true ∧ isTpX s12 = false) ∧ (cellsX s13 = some [s13] ∧ okX s13 = true ∧ isTpX s13 = false) := by
 obtain ⟨b3, t3, b4, t4, b5, t5, b6, t6, b8, t8, b9, t9, b12, t12, b13, t13, e, _, o3, o4, o5, o6, o8, o9, o12, o13⟩ := invModel o
 simp only [List.cons.injEq, true_and, and_true] at e
 obtain ⟨rfl, rfl, rfl, rfl, rfl, rfl, rfl, rfl⟩ := e
 exact ⟨o3.cell, o4.cell, o5.cell, o6.cell, o8.cell, o9.cell, o12.cell, o13.cell⟩
theorem shModel {g : H2} {bs : List Nat} {ys : List X} {c : LModel} (o : OTs g bs ys (eModel c)) : ∃ s3 s4 s5 s6 s8 s9 s12 s13 , ys = [.raw (.int .i64 c.dim), .raw (.int .i64 c.heads), .raw (.int .i64 c.context), s3, s4, s5, s6, .raw (.int .i64 c.head.width), s8, s9, .raw (.int .i64 c.head.mul), .raw (.int .i64 c.head.shift), s12, s13] ∧ (cellsX s3 = some [s3] ∧ okX s3 = true ∧ isTpX s3 = false) ∧ (cellsX s4 = some [s4] ∧ okX s4 = true ∧ isTpX s4 = false) ∧ (cellsX s5 = some [s5] ∧ okX s5 = true ∧ isTpX s5 = false) ∧ (cellsX s6 = some [s6] ∧ okX s6 = true ∧ isTpX s6 = false) ∧ (cellsX s8 = some [s8] ∧ okX s8 = true ∧ isTpX s8 = false) ∧ (cellsX s9 = some [s9] ∧ okX s9 = true ∧ isTpX s9 = false) ∧ (cellsX s12 = some [s12] ∧ okX s12 = true ∧ isTpX s12 = false) ∧ (cellsX s13 = some [s13] ∧ okX s13 = true ∧ isTpX s13 = false) := by
 obtain ⟨b3, s3, b4, s4, b5, s5, b6, s6, b8, s8, b9, s9, b12, s12, b13, s13, rfl, rfl, o3, o4, o5, o6, o8, o9, o12, o13⟩ := invModel o
 exact ⟨s3, s4, s5, s6, s8, s9, s12, s13, rfl, o3.cell, o4.cell, o5.cell, o6.cell, o8.cell, o9.cell, o12.cell, o13.cell⟩
theorem shStore {g : H2} {bs : List Nat} {ys : List X} {c : LStore} (o : OTs g bs ys (eStore c)) : ∃ s0 s1 , ys = [s0, s1] ∧ (cellsX s0 = some [s0] ∧ okX s0 = true ∧ isTpX s0 = false) ∧ (cellsX s1 = some [s1] ∧ okX s1 = true ∧ isTpX s1 = false) := by
 obtain ⟨b0, s0, b1, s1, rfl, rfl, o0, o1⟩ := invStore o
 exact ⟨s0, s1, rfl, o0.cell, o1.cell⟩
theorem OTs.cellS {g : H2} {bS : List Nat} {s14 s15 : X} {c : LStore} (o : OTs g bS [s14, s15] (eStore c)) : (cellsX s14 = some [s14] ∧ okX s14 = true ∧ isTpX s14 = false) ∧ (cellsX s15 = some [s15] ∧ okX s15 = true ∧ isTpX s15 = false) := by
 obtain ⟨b0, t0, b1, t1, e, _, o0, o1⟩ := invStore o
 simp only [List.cons.injEq, and_true] at e
 obtain ⟨rfl, rfl⟩ := e
 exact ⟨o0.cell, o1.cell⟩
theorem OTs.setN {g : H2} {bs : List Nat} {xs : List X} {ts : List T} {N M b : Nat} {k : OB} (o : OTs g bs xs ts) (bl : Bl N M bs) (hb : b < N) : OTs (g.set b k) bs xs ts := o.frame fun q hq => by
 have := bl.2 q hq
 simp only [H2.set]; rw [if_neg (by omega)]
theorem outEngine2 {g : H2} {c : LEngine} {bM bS b16 : List Nat} {s3 s4 s5 s6 s8 s9 s12 s13 s14 s15 s16 : X} (oM : OTs g bM [.raw (.int .i64 c.model.dim), .raw (.int .i64 c.model.heads), .raw (.int .i64 c.model.context), s3, s4, s5, s6, .raw (.int .i64 c.model.head.width), s8, s9, .raw (.int .i64 c.model.head.mul), .raw (.int .i64 c.model.head.shift), s12, s13] (eModel c.model)) (oS : OTs g bS [s14, s15] (eStore c.store)) (o16 : OT g b16 s16 (.l 10 (rRequestS c.requests))) : OTs g (bM ++ (bS ++ b16)) [.raw (.int .i64 c.model.dim), .raw (.int .i64 c.model.heads), .raw (.int .i64 c.model.context), s3, s4, s5, s6, .raw (.int .i64 c.model.head.width), s8, s9, .raw (.int .i64 c.model.head.mul), .raw (.int .i64 c.model.head.shift), s12, s13, s14, s15, s16] (eEngine c) := by
 have := oM.append (oS.append (OTs.cons o16 OTs.nil))
 simp only [List.append_nil] at this
 exact this
end Go.Bi
end
