/- Own lemmas that the theorem of this claim needs: the abstract machine and walks of functions. -/
import Derived.Test.YtjofbadmkigkjaaGreatNnLawAA
import Derived.Test.YtjofbadmkigkjaaGreatNnLawAB
import Derived.Test.YtjofbadmkigkjaaGreatNnLawAC
import Derived.Test.YtjofbadmkigkjaaGreatNnLawAD
import Derived.Test.YtjofbadmkigkjaaGreatNnLawAE
import Derived.Test.YtjofbadmkigkjaaGreatNnLawAF
import Derived.Test.YtjofbadmkigkjaaGreatNnLawAG
import Derived.Test.YtjofbadmkigkjaaGreatNnLawAH
import Derived.Test.YtjofbadmkigkjaaGreatNnLawAI
import Derived.Test.YtjofbadmkigkjaaGreatNnLawAJ
import Derived.Test.YtjofbadmkigkjaaGreatNnLawAK
import Derived.Test.YtjofbadmkigkjaaGreatNnLawAL
open Nat renaming reduceBEq → rq1, reduceAdd → rq2, reduceLeDiff → rq3, reduceMul → rq4
open Int renaming reduceLE → rq5, reduceLT → rq6, reduceBEq → rq7
section
set_option linter.unusedSimpArgs false
set_option linter.unusedVariables false
set_option maxRecDepth 20000
namespace Go.Bi
open Go.Proofs
open Go.Ai (wrap_i64 wrap_u8)
variable {W0 : World} {P : Program}
set_option maxHeartbeats 8000000
theorem cloneI_new {f : Adr} {zs : List Int} {g : H2} (hs : zs.length ≤ 1048576) : NewT Tryz.prog W0 134 [.sl f 1 (ints zs)] g (.l 1 (ints zs)) := (cloneI_ok hs).mono fun v h' ⟨h1, h2⟩ => ⟨h1, OwnI.tree h2⟩
theorem Gr.setB {N b : Nat} {g : H2} {k : OB} {v : X} {z n : Nat} {ts : List T} {bs : List Nat} (gr : Gr N g v z n ts bs) (hb : b < N) : Gr N (g.set b k) v z n ts bs := by
  obtain ⟨cs, ⟨e1, e2⟩, t1, b1, d1⟩ := gr
  refine ⟨cs, ⟨e1, e2.imp_right ?_⟩, t1.frame fun q hq => ?_, by simp only [hn_set]; exact b1, d1⟩
  · rintro ⟨q, f1, f2, f3, f4⟩
    exact ⟨q, f1, f2, by simp only [hn_set]; exact f3, by rw [hg_set, show (q == b) = false by simp; omega]; exact f4⟩
  · have := b1.2 q hq
    simp only [H2.set]; rw [if_neg (by omega)]
theorem Bl.perm {N M : Nat} {a b : List Nat} (l : Bl N M a) (p : a.Perm b) : Bl N M b := ⟨p.nodup_iff.1 l.1, fun x hx => l.2 x (p.mem_iff.2 hx)⟩
theorem cloneModel_new {F : Nat → Adr} {c : LModel} {g : H2} (hs : szModel c ≤ 1048576) : NewS Tryz.prog W0 50 [.st (xModel F c)] g (eModel c) := by
  have hsz : szModel c = (c.merges.length + sumN szMerge c.merges) + szIntSS c.embed + (c.layers.length + sumN szLayer c.layers) + c.gainEnd.length + szMatrix c.head + (szIntSS c.turns.cos + szIntSS c.turns.sin) := rfl
  refine start (P := Tryz.prog) [[0], [1, 2], [1, 2, 3], [1, 2, 3], [1, 2, 3], [1, 2, 3], [2, 3, 35, 36, 37], [2, 3, 35, 36, 37], [2, 3, 5, 35, 36, 37], [2, 3, 35, 36, 37], [2, 3]] (by kernel_rfl) Tryz.func50 rfl (by decide) (by decide +kernel) (rs := [.cell 2 33]) rfl rfl (Nat.le_of_ble_eq_true rfl) ?_
  intro wf
  have ne1 : (hn g .mk == hn g .mk + 1) = false := by simp
  have ne2 : (hn g .mk == hn g .mk + 1 + 1) = false := by simp; omega
  have ne3 : (hn g .mk + 1 == hn g .mk + 1 + 1) = false := by simp
  have ne4 : (hn g .mk + 1 == hn g .mk) = false := by simp
  have ne5 : (hn g .mk + 1 + 1 == hn g .mk) = false := by simp; omega
  have ne6 : (hn g .mk + 1 + 1 == hn g .mk + 1) = false := by simp
  repeat (first | rw [kz_o] | rw [kz_r0] | simp -dsimp -implicitDefEqProofs only [go_sem, rq1, rq2, rq3, rq4, rq5, rq6, rq7, hoo, ne1, ne2, ne3, ne4, ne5, ne6])
  refine dq_intro [(0, []), (1, []), (3, []), (4, []), (6, []), (7, []), (9, []), (10, []), (2, [4, 7, 10]), (12, []), (5, [7, 10]), (8, [10]), (11, []), (13, []), (14, []), (15, []), (16, []), (17, []), (18, []), (19, [])] (by kernel_rfl) ?_
  repeat (first | rw [kz_o] | rw [kz_r0] | simp -dsimp -implicitDefEqProofs only [go_sem, rq1, rq2, rq3, rq4, rq5, rq6, rq7, hoo, ne1, ne2, ne3, ne4, ne5, ne6])
  refine wz_intro (cloneMerges_new (by omega)) ?_
  rintro sm gm ⟨lm, bm, om, blm⟩
  have cm := OT.cell om
  have nm := lm.1
  try simp only [hn_push, hn_set] at nm blm
  have rm_0 := lm.2 (hn g .mk) (by first | omega | (simp only [hn_push, hn_set, hn_up]; omega) | (simp only [hn_push, hn_set, hn_up] at *; omega))
  have rm_1 := lm.2 (hn g .mk + 1) (by first | omega | (simp only [hn_push, hn_set, hn_up]; omega) | (simp only [hn_push, hn_set, hn_up] at *; omega))
  have rm_2 := lm.2 (hn g .mk + 1 + 1) (by first | omega | (simp only [hn_push, hn_set, hn_up]; omega) | (simp only [hn_push, hn_set, hn_up] at *; omega))
  simp -dsimp -implicitDefEqProofs only [go_sem, rq1, rq2, rq3, rq4, rq5, rq6, rq7, hoo, ne1, ne2, ne3, ne4, ne5, ne6, hoo, hoo, hoo] at rm_0 rm_1 rm_2
  have Lm : g.le gm := H2.le.trans (by repeat (first  | exact H2.le.refl _ | apply le_push | refine le_set ?_ (by omega))) lm
  first | (rw [kz_r]; refine ⟨by simp -dsimp -implicitDefEqProofs only [go_sem, rq1, rq2, rq3, rq4, rq5, rq6, rq7, hoo, ne1, ne2, ne3, ne4, ne5, ne6, rm_0, rm_1, rm_2, cm], ?_⟩) | skip
  repeat (first | rw [kz_o] | rw [kz_r0] | simp -dsimp -implicitDefEqProofs only [go_sem, rq1, rq2, rq3, rq4, rq5, rq6, rq7, hoo, ne1, ne2, ne3, ne4, ne5, ne6, rm_0, rm_1, rm_2, cm])
  refine wz_intro (cloneLists_new (by omega)) ?_
  rintro se ge ⟨le, be, oe, ble⟩
  have ce := OT.cell oe
  have ne := le.1
  try simp only [hn_push, hn_set] at ne ble
  have re_0 := le.2 (hn g .mk) (by first | omega | (simp only [hn_push, hn_set, hn_up]; omega) | (simp only [hn_push, hn_set, hn_up] at *; omega))
  have re_1 := le.2 (hn g .mk + 1) (by first | omega | (simp only [hn_push, hn_set, hn_up]; omega) | (simp only [hn_push, hn_set, hn_up] at *; omega))
  have re_2 := le.2 (hn g .mk + 1 + 1) (by first | omega | (simp only [hn_push, hn_set, hn_up]; omega) | (simp only [hn_push, hn_set, hn_up] at *; omega))
  simp -dsimp -implicitDefEqProofs only [go_sem, rq1, rq2, rq3, rq4, rq5, rq6, rq7, hoo, ne1, ne2, ne3, ne4, ne5, ne6, rm_0, rm_1, rm_2] at re_0 re_1 re_2
  have Le : g.le ge := H2.le.trans (by repeat (first | exact Lm | exact H2.le.refl _ | apply le_push | refine le_set ?_ (by omega))) le
  replace om := OT.frame (g' := ge) om fun q hq => by
    have hq1 := blm.2 q hq
    refine (show ge.get q = _ from le.2 q (by first | omega | (simp only [hn_push, hn_set, hn_up]; omega) | (simp only [hn_push, hn_set, hn_up] at *; omega))).trans ?_
    first | rfl | (simp only [hg, H2.set, H2.push]; repeat (first | rfl | rw [if_neg (by first | omega | (unfold hn at *; omega))]))
  first | (rw [kz_r]; refine ⟨by simp -dsimp -implicitDefEqProofs only [go_sem, rq1, rq2, rq3, rq4, rq5, rq6, rq7, hoo, ne1, ne2, ne3, ne4, ne5, ne6, re_0, re_1, re_2, cm, ce], ?_⟩) | skip
  repeat (first | rw [kz_o] | rw [kz_r0] | simp -dsimp -implicitDefEqProofs only [go_sem, rq1, rq2, rq3, rq4, rq5, rq6, rq7, hoo, ne1, ne2, ne3, ne4, ne5, ne6, re_0, re_1, re_2, cm, ce])
  refine wz_intro (cloneI_new (by omega)) ?_
  rintro sg gg ⟨lg, bg, og, blg⟩
  have cg := OT.cell og
  have ng := lg.1
  try simp only [hn_push, hn_set] at ng blg
  have rg_0 := lg.2 (hn g .mk) (by first | omega | (simp only [hn_push, hn_set, hn_up]; omega) | (simp only [hn_push, hn_set, hn_up] at *; omega))
  have rg_1 := lg.2 (hn g .mk + 1) (by first | omega | (simp only [hn_push, hn_set, hn_up]; omega) | (simp only [hn_push, hn_set, hn_up] at *; omega))
  have rg_2 := lg.2 (hn g .mk + 1 + 1) (by first | omega | (simp only [hn_push, hn_set, hn_up]; omega) | (simp only [hn_push, hn_set, hn_up] at *; omega))
  simp -dsimp -implicitDefEqProofs only [go_sem, rq1, rq2, rq3, rq4, rq5, rq6, rq7, hoo, ne1, ne2, ne3, ne4, ne5, ne6, re_0, re_1, re_2] at rg_0 rg_1 rg_2
  have Lg : g.le gg := H2.le.trans (by repeat (first | exact Le | exact H2.le.refl _ | apply le_push | refine le_set ?_ (by omega))) lg
  replace om := OT.frame (g' := gg) om fun q hq => by
    have hq1 := blm.2 q hq
    refine (show gg.get q = _ from lg.2 q (by first | omega | (simp only [hn_push, hn_set, hn_up]; omega) | (simp only [hn_push, hn_set, hn_up] at *; omega))).trans ?_
    first | rfl | (simp only [hg, H2.set, H2.push]; repeat (first | rfl | rw [if_neg (by first | omega | (unfold hn at *; omega))]))
  replace oe := OT.frame (g' := gg) oe fun q hq => by
    have hq1 := ble.2 q hq
    refine (show gg.get q = _ from lg.2 q (by first | omega | (simp only [hn_push, hn_set, hn_up]; omega) | (simp only [hn_push, hn_set, hn_up] at *; omega))).trans ?_
    first | rfl | (simp only [hg, H2.set, H2.push]; repeat (first | rfl | rw [if_neg (by first | omega | (unfold hn at *; omega))]))
  first | (rw [kz_r]; refine ⟨by simp -dsimp -implicitDefEqProofs only [go_sem, rq1, rq2, rq3, rq4, rq5, rq6, rq7, hoo, ne1, ne2, ne3, ne4, ne5, ne6, rg_0, rg_1, rg_2, cm, ce, cg], ?_⟩) | skip
  repeat (first | rw [kz_o] | rw [kz_r0] | simp -dsimp -implicitDefEqProofs only [go_sem, rq1, rq2, rq3, rq4, rq5, rq6, rq7, hoo, ne1, ne2, ne3, ne4, ne5, ne6, rg_0, rg_1, rg_2, cm, ce, cg])
  refine wz_intro (cloneMatrix_new (F := fun j => F (j + 7)) (c := c.head) (by omega)) ?_
  rintro _ gh ⟨lh, ysh, bbh, rfl, ooh, blh⟩
  obtain ⟨bha, sha, bhb, shb, rfl, rfl, oha, ohb⟩ := invMatrix ooh
  have cha := OT.cell oha
  have chb := OT.cell ohb
  have nh := lh.1
  try simp only [hn_push, hn_set] at nh blh
  have blha := blh.split.1
  have blhb := blh.split.2.1
  have rh_0 := lh.2 (hn g .mk) (by first | omega | (simp only [hn_push, hn_set, hn_up]; omega) | (simp only [hn_push, hn_set, hn_up] at *; omega))
  have rh_1 := lh.2 (hn g .mk + 1) (by first | omega | (simp only [hn_push, hn_set, hn_up]; omega) | (simp only [hn_push, hn_set, hn_up] at *; omega))
  have rh_2 := lh.2 (hn g .mk + 1 + 1) (by first | omega | (simp only [hn_push, hn_set, hn_up]; omega) | (simp only [hn_push, hn_set, hn_up] at *; omega))
  simp -dsimp -implicitDefEqProofs only [go_sem, rq1, rq2, rq3, rq4, rq5, rq6, rq7, hoo, ne1, ne2, ne3, ne4, ne5, ne6, rg_0, rg_1, rg_2] at rh_0 rh_1 rh_2
  have Lh : g.le gh := H2.le.trans (by repeat (first | exact Lg | exact H2.le.refl _ | apply le_push | refine le_set ?_ (by omega))) lh
  replace om := OT.frame (g' := gh) om fun q hq => by
    have hq1 := blm.2 q hq
    refine (show gh.get q = _ from lh.2 q (by first | omega | (simp only [hn_push, hn_set, hn_up]; omega) | (simp only [hn_push, hn_set, hn_up] at *; omega))).trans ?_
    first | rfl | (simp only [hg, H2.set, H2.push]; repeat (first | rfl | rw [if_neg (by first | omega | (unfold hn at *; omega))]))
  replace oe := OT.frame (g' := gh) oe fun q hq => by
    have hq1 := ble.2 q hq
    refine (show gh.get q = _ from lh.2 q (by first | omega | (simp only [hn_push, hn_set, hn_up]; omega) | (simp only [hn_push, hn_set, hn_up] at *; omega))).trans ?_
    first | rfl | (simp only [hg, H2.set, H2.push]; repeat (first | rfl | rw [if_neg (by first | omega | (unfold hn at *; omega))]))
  replace og := OT.frame (g' := gh) og fun q hq => by
    have hq1 := blg.2 q hq
    refine (show gh.get q = _ from lh.2 q (by first | omega | (simp only [hn_push, hn_set, hn_up]; omega) | (simp only [hn_push, hn_set, hn_up] at *; omega))).trans ?_
    first | rfl | (simp only [hg, H2.set, H2.push]; repeat (first | rfl | rw [if_neg (by first | omega | (unfold hn at *; omega))]))
  first | (rw [kz_r]; refine ⟨by simp -dsimp -implicitDefEqProofs only [go_sem, rq1, rq2, rq3, rq4, rq5, rq6, rq7, hoo, ne1, ne2, ne3, ne4, ne5, ne6, rh_0, rh_1, rh_2, cm, ce, cg, cha, chb], ?_⟩) | skip
  repeat (first | rw [kz_o] | rw [kz_r0] | simp -dsimp -implicitDefEqProofs only [go_sem, rq1, rq2, rq3, rq4, rq5, rq6, rq7, hoo, ne1, ne2, ne3, ne4, ne5, ne6, rh_0, rh_1, rh_2, cm, ce, cg, cha, chb])
  refine dq_intro [(0, []), (1, []), (2, []), (4, []), (5, []), (6, []), (3, [6]), (7, []), (8, []), (9, []), (10, [])] (by kernel_rfl) ?_
  repeat (first | rw [kz_o] | rw [kz_r0] | simp -dsimp -implicitDefEqProofs only [go_sem, rq1, rq2, rq3, rq4, rq5, rq6, rq7, hoo, ne1, ne2, ne3, ne4, ne5, ne6, rh_0, rh_1, rh_2, cm, ce, cg, cha, chb])
  refine wz_intro (cloneLists_new (by omega)) ?_
  rintro sx gx ⟨lx, bx, ox, blx⟩
  have cx := OT.cell ox
  have nx := lx.1
  try simp only [hn_push, hn_set] at nx blx
  have rx_0 := lx.2 (hn g .mk) (by first | omega | (simp only [hn_push, hn_set, hn_up]; omega) | (simp only [hn_push, hn_set, hn_up] at *; omega))
  have rx_1 := lx.2 (hn g .mk + 1) (by first | omega | (simp only [hn_push, hn_set, hn_up]; omega) | (simp only [hn_push, hn_set, hn_up] at *; omega))
  have rx_2 := lx.2 (hn g .mk + 1 + 1) (by first | omega | (simp only [hn_push, hn_set, hn_up]; omega) | (simp only [hn_push, hn_set, hn_up] at *; omega))
  simp -dsimp -implicitDefEqProofs only [go_sem, rq1, rq2, rq3, rq4, rq5, rq6, rq7, hoo, ne1, ne2, ne3, ne4, ne5, ne6, rh_0, rh_1, rh_2] at rx_0 rx_1 rx_2
  have Lx : g.le gx := H2.le.trans (by repeat (first | exact Lh | exact H2.le.refl _ | apply le_push | refine le_set ?_ (by omega))) lx
  replace om := OT.frame (g' := gx) om fun q hq => by
    have hq1 := blm.2 q hq
    refine (show gx.get q = _ from lx.2 q (by first | omega | (simp only [hn_push, hn_set, hn_up]; omega) | (simp only [hn_push, hn_set, hn_up] at *; omega))).trans ?_
    first | rfl | (simp only [hg, H2.set, H2.push]; repeat (first | rfl | rw [if_neg (by first | omega | (unfold hn at *; omega))]))
  replace oe := OT.frame (g' := gx) oe fun q hq => by
    have hq1 := ble.2 q hq
    refine (show gx.get q = _ from lx.2 q (by first | omega | (simp only [hn_push, hn_set, hn_up]; omega) | (simp only [hn_push, hn_set, hn_up] at *; omega))).trans ?_
    first | rfl | (simp only [hg, H2.set, H2.push]; repeat (first | rfl | rw [if_neg (by first | omega | (unfold hn at *; omega))]))
  replace og := OT.frame (g' := gx) og fun q hq => by
    have hq1 := blg.2 q hq
    refine (show gx.get q = _ from lx.2 q (by first | omega | (simp only [hn_push, hn_set, hn_up]; omega) | (simp only [hn_push, hn_set, hn_up] at *; omega))).trans ?_
    first | rfl | (simp only [hg, H2.set, H2.push]; repeat (first | rfl | rw [if_neg (by first | omega | (unfold hn at *; omega))]))
  replace oha := OT.frame (g' := gx) oha fun q hq => by
    have hq1 := blha.2 q hq
    refine (show gx.get q = _ from lx.2 q (by first | omega | (simp only [hn_push, hn_set, hn_up]; omega) | (simp only [hn_push, hn_set, hn_up] at *; omega))).trans ?_
    first | rfl | (simp only [hg, H2.set, H2.push]; repeat (first | rfl | rw [if_neg (by first | omega | (unfold hn at *; omega))]))
  replace ohb := OT.frame (g' := gx) ohb fun q hq => by
    have hq1 := blhb.2 q hq
    refine (show gx.get q = _ from lx.2 q (by first | omega | (simp only [hn_push, hn_set, hn_up]; omega) | (simp only [hn_push, hn_set, hn_up] at *; omega))).trans ?_
    first | rfl | (simp only [hg, H2.set, H2.push]; repeat (first | rfl | rw [if_neg (by first | omega | (unfold hn at *; omega))]))
  first | (rw [kz_r]; refine ⟨by simp -dsimp -implicitDefEqProofs only [go_sem, rq1, rq2, rq3, rq4, rq5, rq6, rq7, hoo, ne1, ne2, ne3, ne4, ne5, ne6, rx_0, rx_1, rx_2, cm, ce, cg, cha, chb, cx], ?_⟩) | skip
  repeat (first | rw [kz_o] | rw [kz_r0] | simp -dsimp -implicitDefEqProofs only [go_sem, rq1, rq2, rq3, rq4, rq5, rq6, rq7, hoo, ne1, ne2, ne3, ne4, ne5, ne6, rx_0, rx_1, rx_2, cm, ce, cg, cha, chb, cx])
  refine wz_intro (cloneLists_new (by omega)) ?_
  rintro sw gw ⟨lw, bw, ow, blw⟩
  have cw := OT.cell ow
  have nw := lw.1
  try simp only [hn_push, hn_set] at nw blw
  have rw_0 := lw.2 (hn g .mk) (by first | omega | (simp only [hn_push, hn_set, hn_up]; omega) | (simp only [hn_push, hn_set, hn_up] at *; omega))
  have rw_1 := lw.2 (hn g .mk + 1) (by first | omega | (simp only [hn_push, hn_set, hn_up]; omega) | (simp only [hn_push, hn_set, hn_up] at *; omega))
  have rw_2 := lw.2 (hn g .mk + 1 + 1) (by first | omega | (simp only [hn_push, hn_set, hn_up]; omega) | (simp only [hn_push, hn_set, hn_up] at *; omega))
  simp -dsimp -implicitDefEqProofs only [go_sem, rq1, rq2, rq3, rq4, rq5, rq6, rq7, hoo, ne1, ne2, ne3, ne4, ne5, ne6, rx_0, rx_1, rx_2] at rw_0 rw_1 rw_2
  have Lw : g.le gw := H2.le.trans (by repeat (first | exact Lx | exact H2.le.refl _ | apply le_push | refine le_set ?_ (by omega))) lw
  replace om := OT.frame (g' := gw) om fun q hq => by
    have hq1 := blm.2 q hq
    refine (show gw.get q = _ from lw.2 q (by first | omega | (simp only [hn_push, hn_set, hn_up]; omega) | (simp only [hn_push, hn_set, hn_up] at *; omega))).trans ?_
    first | rfl | (simp only [hg, H2.set, H2.push]; repeat (first | rfl | rw [if_neg (by first | omega | (unfold hn at *; omega))]))
  replace oe := OT.frame (g' := gw) oe fun q hq => by
    have hq1 := ble.2 q hq
    refine (show gw.get q = _ from lw.2 q (by first | omega | (simp only [hn_push, hn_set, hn_up]; omega) | (simp only [hn_push, hn_set, hn_up] at *; omega))).trans ?_
    first | rfl | (simp only [hg, H2.set, H2.push]; repeat (first | rfl | rw [if_neg (by first | omega | (unfold hn at *; omega))]))
  replace og := OT.frame (g' := gw) og fun q hq => by
    have hq1 := blg.2 q hq
    refine (show gw.get q = _ from lw.2 q (by first | omega | (simp only [hn_push, hn_set, hn_up]; omega) | (simp only [hn_push, hn_set, hn_up] at *; omega))).trans ?_
    first | rfl | (simp only [hg, H2.set, H2.push]; repeat (first | rfl | rw [if_neg (by first | omega | (unfold hn at *; omega))]))
  replace oha := OT.frame (g' := gw) oha fun q hq => by
    have hq1 := blha.2 q hq
    refine (show gw.get q = _ from lw.2 q (by first | omega | (simp only [hn_push, hn_set, hn_up]; omega) | (simp only [hn_push, hn_set, hn_up] at *; omega))).trans ?_
    first | rfl | (simp only [hg, H2.set, H2.push]; repeat (first | rfl | rw [if_neg (by first | omega | (unfold hn at *; omega))]))
  replace ohb := OT.frame (g' := gw) ohb fun q hq => by
    have hq1 := blhb.2 q hq
    refine (show gw.get q = _ from lw.2 q (by first | omega | (simp only [hn_push, hn_set, hn_up]; omega) | (simp only [hn_push, hn_set, hn_up] at *; omega))).trans ?_
    first | rfl | (simp only [hg, H2.set, H2.push]; repeat (first | rfl | rw [if_neg (by first | omega | (unfold hn at *; omega))]))
  replace ox := OT.frame (g' := gw) ox fun q hq => by
    have hq1 := blx.2 q hq
    refine (show gw.get q = _ from lw.2 q (by first | omega | (simp only [hn_push, hn_set, hn_up]; omega) | (simp only [hn_push, hn_set, hn_up] at *; omega))).trans ?_
    first | rfl | (simp only [hg, H2.set, H2.push]; repeat (first | rfl | rw [if_neg (by first | omega | (unfold hn at *; omega))]))
  first | (rw [kz_r]; refine ⟨by simp -dsimp -implicitDefEqProofs only [go_sem, rq1, rq2, rq3, rq4, rq5, rq6, rq7, hoo, ne1, ne2, ne3, ne4, ne5, ne6, rw_0, rw_1, rw_2, cm, ce, cg, cha, chb, cx, cw], ?_⟩) | skip
  repeat (first | rw [kz_o] | rw [kz_r0] | simp -dsimp -implicitDefEqProofs only [go_sem, rq1, rq2, rq3, rq4, rq5, rq6, rq7, hoo, ne1, ne2, ne3, ne4, ne5, ne6, rw_0, rw_1, rw_2, cm, ce, cg, cha, chb, cx, cw])
  refine lz_keep [2, 3, 35, 36] (fun m s h' => ∃ (i : Nat) (v : X) (bs : List Nat), look s 37 .mk = .raw (.int .i64 (i : Nat)) ∧ m + i = c.layers.length ∧ hn gw .mk ≤ hn h' .mk ∧ (∀ b, b < hn gw .mk → b ≠ hn g .mk + 1 + 1 → hg h' b .mk = hg gw b .mk) ∧ hg h' (hn g .mk + 1 + 1) .mk = some ⟨14, [.raw (.int .i64 c.dim), .raw (.int .i64 c.heads), .raw (.int .i64 c.context), sm, se, v, sg, .raw (.int .i64 c.head.width), sha, shb, .raw (.int .i64 c.head.mul), .raw (.int .i64 c.head.shift), sx, sw]⟩ ∧ Gr (hn gw .mk) h' v 32 i (((c.layers.take i).map eLayer).flatten) bs) c.layers.length ?_ ?_
  · refine ⟨0, .raw (.slice none 0 0), [], by simp -dsimp -implicitDefEqProofs only [go_sem, rq1, rq2, rq3, rq4, rq5, rq6, rq7], by omega, by simp only [hn_set]; omega, fun b h1 h2 => ?_, by simp -dsimp -implicitDefEqProofs only [go_sem, rq1, rq2, rq3, rq4, rq5, rq6, rq7, hoo] <;> rfl, Gr.nil⟩
    rw [hg_set, show (b == hn g .mk + 1 + 1) = false by simp [h2]]; rfl
  rintro m s h' hks ⟨i, v, bs, ei, hm, hnn, fr, r3, gr⟩
  simp -dsimp -implicitDefEqProofs only [go_sem, rq1, rq2, rq3, rq4, rq5, rq6, rq7] at hks
  have hv := Gr.cell gr
  by_cases q1 : (i : Int) < (c.layers.length : Int)
  · have q2 : i < c.layers.length := by omega
    have w1 : IntKind.i64.wrap ((i : Int) + 1) = ((i + 1 : Nat) : Int) := wrap_succ q2 (by omega)
    have ne7 : ((hn g .mk + 1 + 1) == hn h' .mk) = false := by simp; omega
    have ne8 : (hn h' .mk == (hn g .mk + 1 + 1)) = false := by simp; omega
    have hsl : szLayer (c.layers.getD i default) ≤ sumN szLayer c.layers := sumN_mem (f := szLayer) (getD_mem q2)
    have hszL : szLayer (c.layers.getD i default) = (c.layers.getD i default).gain1.length + szMatrix (c.layers.getD i default).q + szMatrix (c.layers.getD i default).k + szMatrix (c.layers.getD i default).v + szMatrix (c.layers.getD i default).o + (c.layers.getD i default).gain2.length + szMatrix (c.layers.getD i default).up + szMatrix (c.layers.getD i default).down := rfl
    repeat (first | rw [kz_o] | rw [kz_r0] | simp -dsimp -implicitDefEqProofs only [go_sem, rq1, rq2, rq3, rq4, rq5, rq6, rq7, hks, ei, q1, q2, hoo, hv, w1, ne7, ne8, r3])
    refine dq_intro [(0, []), (1, []), (2, []), (3, []), (5, []), (6, []), (8, []), (9, []), (11, []), (12, []), (14, []), (15, []), (17, []), (18, []), (20, []), (21, []), (23, []), (24, []), (4, [1, 6, 9, 12, 15, 18, 21, 24]), (7, [1, 9, 12, 15, 18, 21, 24]), (10, [1, 12, 15, 18, 21, 24]), (13, [1, 15, 18, 21, 24]), (16, [1, 18, 21, 24]), (19, [1, 21, 24]), (22, [1, 24]), (25, [1]), (26, []), (27, [1]), (28, []), (29, []), (30, [])] (by kernel_rfl) ?_
    repeat (first | rw [kz_o] | rw [kz_r0] | simp -dsimp -implicitDefEqProofs only [go_sem, rq1, rq2, rq3, rq4, rq5, rq6, rq7, hks, ei, q1, q2, hoo, hv, w1, ne7, ne8, r3])
    refine wz_intro (cloneI_new (by omega)) ?_
    rintro sla gla ⟨lla, bla, ola, blla⟩
    have cla := OT.cell ola
    have nla := lla.1
    try simp only [hn_push, hn_set] at nla blla
    have rla_0 := lla.2 (hn g .mk + 1 + 1) (by first | omega | (simp only [hn_push, hn_set, hn_up]; omega) | (simp only [hn_push, hn_set, hn_up] at *; omega))
    have rla_1 := lla.2 (hn h' .mk) (by first | omega | (simp only [hn_push, hn_set, hn_up]; omega) | (simp only [hn_push, hn_set, hn_up] at *; omega))
    simp -dsimp -implicitDefEqProofs only [go_sem, rq1, rq2, rq3, rq4, rq5, rq6, rq7, hks, ei, q1, q2, hoo, hv, w1, ne7, ne8, r3, hoo] at rla_0 rla_1
    have Lla : h'.le gla := H2.le.trans (by repeat (first  | exact H2.le.refl _ | apply le_push | refine le_set ?_ (by omega))) lla
    first | (rw [kz_r]; refine ⟨by simp -dsimp -implicitDefEqProofs only [go_sem, rq1, rq2, rq3, rq4, rq5, rq6, rq7, hks, ei, q1, q2, hoo, hv, w1, ne7, ne8, rla_0, rla_1, cla], ?_⟩) | skip
    repeat (first | rw [kz_o] | rw [kz_r0] | simp -dsimp -implicitDefEqProofs only [go_sem, rq1, rq2, rq3, rq4, rq5, rq6, rq7, hks, ei, q1, q2, hoo, hv, w1, ne7, ne8, rla_0, rla_1, cla])
    refine wz_intro (cloneMatrix_new (F := (fun j => under (under (F 5) i) (j + 1))) (c := (c.layers.getD i default).q) (by omega)) ?_
    rintro _ glq ⟨llq, yslq, bblq, rfl, oolq, bllq⟩
    obtain ⟨blqa, slqa, blqb, slqb, rfl, rfl, olqa, olqb⟩ := invMatrix oolq
    have clqa := OT.cell olqa
    have clqb := OT.cell olqb
    have nlq := llq.1
    try simp only [hn_push, hn_set] at nlq bllq
    have bllqa := bllq.split.1
    have bllqb := bllq.split.2.1
    have rlq_0 := llq.2 (hn g .mk + 1 + 1) (by first | omega | (simp only [hn_push, hn_set, hn_up]; omega) | (simp only [hn_push, hn_set, hn_up] at *; omega))
    have rlq_1 := llq.2 (hn h' .mk) (by first | omega | (simp only [hn_push, hn_set, hn_up]; omega) | (simp only [hn_push, hn_set, hn_up] at *; omega))
    simp -dsimp -implicitDefEqProofs only [go_sem, rq1, rq2, rq3, rq4, rq5, rq6, rq7, hks, ei, q1, q2, hoo, hv, w1, ne7, ne8, rla_0, rla_1] at rlq_0 rlq_1
    have Llq : h'.le glq := H2.le.trans (by repeat (first | exact Lla | exact H2.le.refl _ | apply le_push | refine le_set ?_ (by omega))) llq
    replace ola := OT.frame (g' := glq) ola fun q hq => by
      have hq1 := blla.2 q hq
      refine (show glq.get q = _ from llq.2 q (by first | omega | (simp only [hn_push, hn_set, hn_up]; omega) | (simp only [hn_push, hn_set, hn_up] at *; omega))).trans ?_
      first | rfl | (simp only [hg, H2.set, H2.push]; repeat (first | rfl | rw [if_neg (by first | omega | (unfold hn at *; omega))]))
    first | (rw [kz_r]; refine ⟨by simp -dsimp -implicitDefEqProofs only [go_sem, rq1, rq2, rq3, rq4, rq5, rq6, rq7, hks, ei, q1, q2, hoo, hv, w1, ne7, ne8, rlq_0, rlq_1, cla, clqa, clqb], ?_⟩) | skip
    repeat (first | rw [kz_o] | rw [kz_r0] | simp -dsimp -implicitDefEqProofs only [go_sem, rq1, rq2, rq3, rq4, rq5, rq6, rq7, hks, ei, q1, q2, hoo, hv, w1, ne7, ne8, rlq_0, rlq_1, cla, clqa, clqb])
    refine wz_intro (cloneMatrix_new (F := (fun j => under (under (F 5) i) (j + 6))) (c := (c.layers.getD i default).k) (by omega)) ?_
    rintro _ glk ⟨llk, yslk, bblk, rfl, oolk, bllk⟩
    obtain ⟨blka, slka, blkb, slkb, rfl, rfl, olka, olkb⟩ := invMatrix oolk
    have clka := OT.cell olka
    have clkb := OT.cell olkb
    have nlk := llk.1
    try simp only [hn_push, hn_set] at nlk bllk
    have bllka := bllk.split.1
    have bllkb := bllk.split.2.1
    have rlk_0 := llk.2 (hn g .mk + 1 + 1) (by first | omega | (simp only [hn_push, hn_set, hn_up]; omega) | (simp only [hn_push, hn_set, hn_up] at *; omega))
    have rlk_1 := llk.2 (hn h' .mk) (by first | omega | (simp only [hn_push, hn_set, hn_up]; omega) | (simp only [hn_push, hn_set, hn_up] at *; omega))
    simp -dsimp -implicitDefEqProofs only [go_sem, rq1, rq2, rq3, rq4, rq5, rq6, rq7, hks, ei, q1, q2, hoo, hv, w1, ne7, ne8, rlq_0, rlq_1] at rlk_0 rlk_1
    have Llk : h'.le glk := H2.le.trans (by repeat (first | exact Llq | exact H2.le.refl _ | apply le_push | refine le_set ?_ (by omega))) llk
    replace ola := OT.frame (g' := glk) ola fun q hq => by
      have hq1 := blla.2 q hq
      refine (show glk.get q = _ from llk.2 q (by first | omega | (simp only [hn_push, hn_set, hn_up]; omega) | (simp only [hn_push, hn_set, hn_up] at *; omega))).trans ?_
      first | rfl | (simp only [hg, H2.set, H2.push]; repeat (first | rfl | rw [if_neg (by first | omega | (unfold hn at *; omega))]))
    replace olqa := OT.frame (g' := glk) olqa fun q hq => by
      have hq1 := bllqa.2 q hq
      refine (show glk.get q = _ from llk.2 q (by first | omega | (simp only [hn_push, hn_set, hn_up]; omega) | (simp only [hn_push, hn_set, hn_up] at *; omega))).trans ?_
      first | rfl | (simp only [hg, H2.set, H2.push]; repeat (first | rfl | rw [if_neg (by first | omega | (unfold hn at *; omega))]))
    replace olqb := OT.frame (g' := glk) olqb fun q hq => by
      have hq1 := bllqb.2 q hq
      refine (show glk.get q = _ from llk.2 q (by first | omega | (simp only [hn_push, hn_set, hn_up]; omega) | (simp only [hn_push, hn_set, hn_up] at *; omega))).trans ?_
      first | rfl | (simp only [hg, H2.set, H2.push]; repeat (first | rfl | rw [if_neg (by first | omega | (unfold hn at *; omega))]))
    first | (rw [kz_r]; refine ⟨by simp -dsimp -implicitDefEqProofs only [go_sem, rq1, rq2, rq3, rq4, rq5, rq6, rq7, hks, ei, q1, q2, hoo, hv, w1, ne7, ne8, rlk_0, rlk_1, cla, clqa, clqb, clka, clkb], ?_⟩) | skip
    repeat (first | rw [kz_o] | rw [kz_r0] | simp -dsimp -implicitDefEqProofs only [go_sem, rq1, rq2, rq3, rq4, rq5, rq6, rq7, hks, ei, q1, q2, hoo, hv, w1, ne7, ne8, rlk_0, rlk_1, cla, clqa, clqb, clka, clkb])
    refine wz_intro (cloneMatrix_new (F := (fun j => under (under (F 5) i) (j + 11))) (c := (c.layers.getD i default).v) (by omega)) ?_
    rintro _ glv ⟨llv, yslv, bblv, rfl, oolv, bllv⟩
    obtain ⟨blva, slva, blvb, slvb, rfl, rfl, olva, olvb⟩ := invMatrix oolv
    have clva := OT.cell olva
    have clvb := OT.cell olvb
    have nlv := llv.1
    try simp only [hn_push, hn_set] at nlv bllv
    have bllva := bllv.split.1
    have bllvb := bllv.split.2.1
    have rlv_0 := llv.2 (hn g .mk + 1 + 1) (by first | omega | (simp only [hn_push, hn_set, hn_up]; omega) | (simp only [hn_push, hn_set, hn_up] at *; omega))
    have rlv_1 := llv.2 (hn h' .mk) (by first | omega | (simp only [hn_push, hn_set, hn_up]; omega) | (simp only [hn_push, hn_set, hn_up] at *; omega))
    simp -dsimp -implicitDefEqProofs only [go_sem, rq1, rq2, rq3, rq4, rq5, rq6, rq7, hks, ei, q1, q2, hoo, hv, w1, ne7, ne8, rlk_0, rlk_1] at rlv_0 rlv_1
    have Llv : h'.le glv := H2.le.trans (by repeat (first | exact Llk | exact H2.le.refl _ | apply le_push | refine le_set ?_ (by omega))) llv
    replace ola := OT.frame (g' := glv) ola fun q hq => by
      have hq1 := blla.2 q hq
      refine (show glv.get q = _ from llv.2 q (by first | omega | (simp only [hn_push, hn_set, hn_up]; omega) | (simp only [hn_push, hn_set, hn_up] at *; omega))).trans ?_
      first | rfl | (simp only [hg, H2.set, H2.push]; repeat (first | rfl | rw [if_neg (by first | omega | (unfold hn at *; omega))]))
    replace olqa := OT.frame (g' := glv) olqa fun q hq => by
      have hq1 := bllqa.2 q hq
      refine (show glv.get q = _ from llv.2 q (by first | omega | (simp only [hn_push, hn_set, hn_up]; omega) | (simp only [hn_push, hn_set, hn_up] at *; omega))).trans ?_
      first | rfl | (simp only [hg, H2.set, H2.push]; repeat (first | rfl | rw [if_neg (by first | omega | (unfold hn at *; omega))]))
    replace olqb := OT.frame (g' := glv) olqb fun q hq => by
      have hq1 := bllqb.2 q hq
      refine (show glv.get q = _ from llv.2 q (by first | omega | (simp only [hn_push, hn_set, hn_up]; omega) | (simp only [hn_push, hn_set, hn_up] at *; omega))).trans ?_
      first | rfl | (simp only [hg, H2.set, H2.push]; repeat (first | rfl | rw [if_neg (by first | omega | (unfold hn at *; omega))]))
    replace olka := OT.frame (g' := glv) olka fun q hq => by
      have hq1 := bllka.2 q hq
      refine (show glv.get q = _ from llv.2 q (by first | omega | (simp only [hn_push, hn_set, hn_up]; omega) | (simp only [hn_push, hn_set, hn_up] at *; omega))).trans ?_
      first | rfl | (simp only [hg, H2.set, H2.push]; repeat (first | rfl | rw [if_neg (by first | omega | (unfold hn at *; omega))]))
    replace olkb := OT.frame (g' := glv) olkb fun q hq => by
      have hq1 := bllkb.2 q hq
      refine (show glv.get q = _ from llv.2 q (by first | omega | (simp only [hn_push, hn_set, hn_up]; omega) | (simp only [hn_push, hn_set, hn_up] at *; omega))).trans ?_
      first | rfl | (simp only [hg, H2.set, H2.push]; repeat (first | rfl | rw [if_neg (by first | omega | (unfold hn at *; omega))]))
    first | (rw [kz_r]; refine ⟨by simp -dsimp -implicitDefEqProofs only [go_sem, rq1, rq2, rq3, rq4, rq5, rq6, rq7, hks, ei, q1, q2, hoo, hv, w1, ne7, ne8, rlv_0, rlv_1, cla, clqa, clqb, clka, clkb, clva, clvb], ?_⟩) | skip
    repeat (first | rw [kz_o] | rw [kz_r0] | simp -dsimp -implicitDefEqProofs only [go_sem, rq1, rq2, rq3, rq4, rq5, rq6, rq7, hks, ei, q1, q2, hoo, hv, w1, ne7, ne8, rlv_0, rlv_1, cla, clqa, clqb, clka, clkb, clva, clvb])
    refine wz_intro (cloneMatrix_new (F := (fun j => under (under (F 5) i) (j + 16))) (c := (c.layers.getD i default).o) (by omega)) ?_
    rintro _ glo ⟨llo, yslo, bblo, rfl, oolo, bllo⟩
    obtain ⟨bloa, sloa, blob, slob, rfl, rfl, oloa, olob⟩ := invMatrix oolo
    have cloa := OT.cell oloa
    have clob := OT.cell olob
    have nlo := llo.1
    try simp only [hn_push, hn_set] at nlo bllo
    have blloa := bllo.split.1
    have bllob := bllo.split.2.1
    have rlo_0 := llo.2 (hn g .mk + 1 + 1) (by first | omega | (simp only [hn_push, hn_set, hn_up]; omega) | (simp only [hn_push, hn_set, hn_up] at *; omega))
    have rlo_1 := llo.2 (hn h' .mk) (by first | omega | (simp only [hn_push, hn_set, hn_up]; omega) | (simp only [hn_push, hn_set, hn_up] at *; omega))
    simp -dsimp -implicitDefEqProofs only [go_sem, rq1, rq2, rq3, rq4, rq5, rq6, rq7, hks, ei, q1, q2, hoo, hv, w1, ne7, ne8, rlv_0, rlv_1] at rlo_0 rlo_1
    have Llo : h'.le glo := H2.le.trans (by repeat (first | exact Llv | exact H2.le.refl _ | apply le_push | refine le_set ?_ (by omega))) llo
    replace ola := OT.frame (g' := glo) ola fun q hq => by
      have hq1 := blla.2 q hq
      refine (show glo.get q = _ from llo.2 q (by first | omega | (simp only [hn_push, hn_set, hn_up]; omega) | (simp only [hn_push, hn_set, hn_up] at *; omega))).trans ?_
      first | rfl | (simp only [hg, H2.set, H2.push]; repeat (first | rfl | rw [if_neg (by first | omega | (unfold hn at *; omega))]))
    replace olqa := OT.frame (g' := glo) olqa fun q hq => by
      have hq1 := bllqa.2 q hq
      refine (show glo.get q = _ from llo.2 q (by first | omega | (simp only [hn_push, hn_set, hn_up]; omega) | (simp only [hn_push, hn_set, hn_up] at *; omega))).trans ?_
      first | rfl | (simp only [hg, H2.set, H2.push]; repeat (first | rfl | rw [if_neg (by first | omega | (unfold hn at *; omega))]))
    replace olqb := OT.frame (g' := glo) olqb fun q hq => by
      have hq1 := bllqb.2 q hq
      refine (show glo.get q = _ from llo.2 q (by first | omega | (simp only [hn_push, hn_set, hn_up]; omega) | (simp only [hn_push, hn_set, hn_up] at *; omega))).trans ?_
      first | rfl | (simp only [hg, H2.set, H2.push]; repeat (first | rfl | rw [if_neg (by first | omega | (unfold hn at *; omega))]))
    replace olka := OT.frame (g' := glo) olka fun q hq => by
      have hq1 := bllka.2 q hq
      refine (show glo.get q = _ from llo.2 q (by first | omega | (simp only [hn_push, hn_set, hn_up]; omega) | (simp only [hn_push, hn_set, hn_up] at *; omega))).trans ?_
      first | rfl | (simp only [hg, H2.set, H2.push]; repeat (first | rfl | rw [if_neg (by first | omega | (unfold hn at *; omega))]))
    replace olkb := OT.frame (g' := glo) olkb fun q hq => by
      have hq1 := bllkb.2 q hq
      refine (show glo.get q = _ from llo.2 q (by first | omega | (simp only [hn_push, hn_set, hn_up]; omega) | (simp only [hn_push, hn_set, hn_up] at *; omega))).trans ?_
      first | rfl | (simp only [hg, H2.set, H2.push]; repeat (first | rfl | rw [if_neg (by first | omega | (unfold hn at *; omega))]))
    replace olva := OT.frame (g' := glo) olva fun q hq => by
      have hq1 := bllva.2 q hq
      refine (show glo.get q = _ from llo.2 q (by first | omega | (simp only [hn_push, hn_set, hn_up]; omega) | (simp only [hn_push, hn_set, hn_up] at *; omega))).trans ?_
      first | rfl | (simp only [hg, H2.set, H2.push]; repeat (first | rfl | rw [if_neg (by first | omega | (unfold hn at *; omega))]))
    replace olvb := OT.frame (g' := glo) olvb fun q hq => by
      have hq1 := bllvb.2 q hq
      refine (show glo.get q = _ from llo.2 q (by first | omega | (simp only [hn_push, hn_set, hn_up]; omega) | (simp only [hn_push, hn_set, hn_up] at *; omega))).trans ?_
      first | rfl | (simp only [hg, H2.set, H2.push]; repeat (first | rfl | rw [if_neg (by first | omega | (unfold hn at *; omega))]))
    first | (rw [kz_r]; refine ⟨by simp -dsimp -implicitDefEqProofs only [go_sem, rq1, rq2, rq3, rq4, rq5, rq6, rq7, hks, ei, q1, q2, hoo, hv, w1, ne7, ne8, rlo_0, rlo_1, cla, clqa, clqb, clka, clkb, clva, clvb, cloa, clob], ?_⟩) | skip
    repeat (first | rw [kz_o] | rw [kz_r0] | simp -dsimp -implicitDefEqProofs only [go_sem, rq1, rq2, rq3, rq4, rq5, rq6, rq7, hks, ei, q1, q2, hoo, hv, w1, ne7, ne8, rlo_0, rlo_1, cla, clqa, clqb, clka, clkb, clva, clvb, cloa, clob])
    refine wz_intro (cloneI_new (by omega)) ?_
    rintro slb glb ⟨llb, blb, olb, bllb⟩
    have clb := OT.cell olb
    have nlb := llb.1
    try simp only [hn_push, hn_set] at nlb bllb
    have rlb_0 := llb.2 (hn g .mk + 1 + 1) (by first | omega | (simp only [hn_push, hn_set, hn_up]; omega) | (simp only [hn_push, hn_set, hn_up] at *; omega))
    have rlb_1 := llb.2 (hn h' .mk) (by first | omega | (simp only [hn_push, hn_set, hn_up]; omega) | (simp only [hn_push, hn_set, hn_up] at *; omega))
    simp -dsimp -implicitDefEqProofs only [go_sem, rq1, rq2, rq3, rq4, rq5, rq6, rq7, hks, ei, q1, q2, hoo, hv, w1, ne7, ne8, rlo_0, rlo_1] at rlb_0 rlb_1
    have Llb : h'.le glb := H2.le.trans (by repeat (first | exact Llo | exact H2.le.refl _ | apply le_push | refine le_set ?_ (by omega))) llb
    replace ola := OT.frame (g' := glb) ola fun q hq => by
      have hq1 := blla.2 q hq
      refine (show glb.get q = _ from llb.2 q (by first | omega | (simp only [hn_push, hn_set, hn_up]; omega) | (simp only [hn_push, hn_set, hn_up] at *; omega))).trans ?_
      first | rfl | (simp only [hg, H2.set, H2.push]; repeat (first | rfl | rw [if_neg (by first | omega | (unfold hn at *; omega))]))
    replace olqa := OT.frame (g' := glb) olqa fun q hq => by
      have hq1 := bllqa.2 q hq
      refine (show glb.get q = _ from llb.2 q (by first | omega | (simp only [hn_push, hn_set, hn_up]; omega) | (simp only [hn_push, hn_set, hn_up] at *; omega))).trans ?_
      first | rfl | (simp only [hg, H2.set, H2.push]; repeat (first | rfl | rw [if_neg (by first | omega | (unfold hn at *; omega))]))
    replace olqb := OT.frame (g' := glb) olqb fun q hq => by
      have hq1 := bllqb.2 q hq
      refine (show glb.get q = _ from llb.2 q (by first | omega | (simp only [hn_push, hn_set, hn_up]; omega) | (simp only [hn_push, hn_set, hn_up] at *; omega))).trans ?_
      first | rfl | (simp only [hg, H2.set, H2.push]; repeat (first | rfl | rw [if_neg (by first | omega | (unfold hn at *; omega))]))
    replace olka := OT.frame (g' := glb) olka fun q hq => by
      have hq1 := bllka.2 q hq
      refine (show glb.get q = _ from llb.2 q (by first | omega | (simp only [hn_push, hn_set, hn_up]; omega) | (simp only [hn_push, hn_set, hn_up] at *; omega))).trans ?_
      first | rfl | (simp only [hg, H2.set, H2.push]; repeat (first | rfl | rw [if_neg (by first | omega | (unfold hn at *; omega))]))
    replace olkb := OT.frame (g' := glb) olkb fun q hq => by
      have hq1 := bllkb.2 q hq
      refine (show glb.get q = _ from llb.2 q (by first | omega | (simp only [hn_push, hn_set, hn_up]; omega) | (simp only [hn_push, hn_set, hn_up] at *; omega))).trans ?_
      first | rfl | (simp only [hg, H2.set, H2.push]; repeat (first | rfl | rw [if_neg (by first | omega | (unfold hn at *; omega))]))
    replace olva := OT.frame (g' := glb) olva fun q hq => by
      have hq1 := bllva.2 q hq
      refine (show glb.get q = _ from llb.2 q (by first | omega | (simp only [hn_push, hn_set, hn_up]; omega) | (simp only [hn_push, hn_set, hn_up] at *; omega))).trans ?_
      first | rfl | (simp only [hg, H2.set, H2.push]; repeat (first | rfl | rw [if_neg (by first | omega | (unfold hn at *; omega))]))
    replace olvb := OT.frame (g' := glb) olvb fun q hq => by
      have hq1 := bllvb.2 q hq
      refine (show glb.get q = _ from llb.2 q (by first | omega | (simp only [hn_push, hn_set, hn_up]; omega) | (simp only [hn_push, hn_set, hn_up] at *; omega))).trans ?_
      first | rfl | (simp only [hg, H2.set, H2.push]; repeat (first | rfl | rw [if_neg (by first | omega | (unfold hn at *; omega))]))
    replace oloa := OT.frame (g' := glb) oloa fun q hq => by
      have hq1 := blloa.2 q hq
      refine (show glb.get q = _ from llb.2 q (by first | omega | (simp only [hn_push, hn_set, hn_up]; omega) | (simp only [hn_push, hn_set, hn_up] at *; omega))).trans ?_
      first | rfl | (simp only [hg, H2.set, H2.push]; repeat (first | rfl | rw [if_neg (by first | omega | (unfold hn at *; omega))]))
    replace olob := OT.frame (g' := glb) olob fun q hq => by
      have hq1 := bllob.2 q hq
      refine (show glb.get q = _ from llb.2 q (by first | omega | (simp only [hn_push, hn_set, hn_up]; omega) | (simp only [hn_push, hn_set, hn_up] at *; omega))).trans ?_
      first | rfl | (simp only [hg, H2.set, H2.push]; repeat (first | rfl | rw [if_neg (by first | omega | (unfold hn at *; omega))]))
    first | (rw [kz_r]; refine ⟨by simp -dsimp -implicitDefEqProofs only [go_sem, rq1, rq2, rq3, rq4, rq5, rq6, rq7, hks, ei, q1, q2, hoo, hv, w1, ne7, ne8, rlb_0, rlb_1, cla, clqa, clqb, clka, clkb, clva, clvb, cloa, clob, clb], ?_⟩) | skip
    repeat (first | rw [kz_o] | rw [kz_r0] | simp -dsimp -implicitDefEqProofs only [go_sem, rq1, rq2, rq3, rq4, rq5, rq6, rq7, hks, ei, q1, q2, hoo, hv, w1, ne7, ne8, rlb_0, rlb_1, cla, clqa, clqb, clka, clkb, clva, clvb, cloa, clob, clb])
    refine wz_intro (cloneMatrix_new (F := (fun j => under (under (F 5) i) (j + 22))) (c := (c.layers.getD i default).up) (by omega)) ?_
    rintro _ glu ⟨llu, yslu, bblu, rfl, oolu, bllu⟩
    obtain ⟨blua, slua, blub, slub, rfl, rfl, olua, olub⟩ := invMatrix oolu
    have clua := OT.cell olua
    have club := OT.cell olub
    have nlu := llu.1
    try simp only [hn_push, hn_set] at nlu bllu
    have bllua := bllu.split.1
    have bllub := bllu.split.2.1
    have rlu_0 := llu.2 (hn g .mk + 1 + 1) (by first | omega | (simp only [hn_push, hn_set, hn_up]; omega) | (simp only [hn_push, hn_set, hn_up] at *; omega))
    have rlu_1 := llu.2 (hn h' .mk) (by first | omega | (simp only [hn_push, hn_set, hn_up]; omega) | (simp only [hn_push, hn_set, hn_up] at *; omega))
    simp -dsimp -implicitDefEqProofs only [go_sem, rq1, rq2, rq3, rq4, rq5, rq6, rq7, hks, ei, q1, q2, hoo, hv, w1, ne7, ne8, rlb_0, rlb_1] at rlu_0 rlu_1
    have Llu : h'.le glu := H2.le.trans (by repeat (first | exact Llb | exact H2.le.refl _ | apply le_push | refine le_set ?_ (by omega))) llu
    replace ola := OT.frame (g' := glu) ola fun q hq => by
      have hq1 := blla.2 q hq
      refine (show glu.get q = _ from llu.2 q (by first | omega | (simp only [hn_push, hn_set, hn_up]; omega) | (simp only [hn_push, hn_set, hn_up] at *; omega))).trans ?_
      first | rfl | (simp only [hg, H2.set, H2.push]; repeat (first | rfl | rw [if_neg (by first | omega | (unfold hn at *; omega))]))
    replace olqa := OT.frame (g' := glu) olqa fun q hq => by
      have hq1 := bllqa.2 q hq
      refine (show glu.get q = _ from llu.2 q (by first | omega | (simp only [hn_push, hn_set, hn_up]; omega) | (simp only [hn_push, hn_set, hn_up] at *; omega))).trans ?_
      first | rfl | (simp only [hg, H2.set, H2.push]; repeat (first | rfl | rw [if_neg (by first | omega | (unfold hn at *; omega))]))
    replace olqb := OT.frame (g' := glu) olqb fun q hq => by
      have hq1 := bllqb.2 q hq
      refine (show glu.get q = _ from llu.2 q (by first | omega | (simp only [hn_push, hn_set, hn_up]; omega) | (simp only [hn_push, hn_set, hn_up] at *; omega))).trans ?_
      first | rfl | (simp only [hg, H2.set, H2.push]; repeat (first | rfl | rw [if_neg (by first | omega | (unfold hn at *; omega))]))
    replace olka := OT.frame (g' := glu) olka fun q hq => by
      have hq1 := bllka.2 q hq
      refine (show glu.get q = _ from llu.2 q (by first | omega | (simp only [hn_push, hn_set, hn_up]; omega) | (simp only [hn_push, hn_set, hn_up] at *; omega))).trans ?_
      first | rfl | (simp only [hg, H2.set, H2.push]; repeat (first | rfl | rw [if_neg (by first | omega | (unfold hn at *; omega))]))
    replace olkb := OT.frame (g' := glu) olkb fun q hq => by
      have hq1 := bllkb.2 q hq
      refine (show glu.get q = _ from llu.2 q (by first | omega | (simp only [hn_push, hn_set, hn_up]; omega) | (simp only [hn_push, hn_set, hn_up] at *; omega))).trans ?_
      first | rfl | (simp only [hg, H2.set, H2.push]; repeat (first | rfl | rw [if_neg (by first | omega | (unfold hn at *; omega))]))
    replace olva := OT.frame (g' := glu) olva fun q hq => by
      have hq1 := bllva.2 q hq
      refine (show glu.get q = _ from llu.2 q (by first | omega | (simp only [hn_push, hn_set, hn_up]; omega) | (simp only [hn_push, hn_set, hn_up] at *; omega))).trans ?_
      first | rfl | (simp only [hg, H2.set, H2.push]; repeat (first | rfl | rw [if_neg (by first | omega | (unfold hn at *; omega))]))
    replace olvb := OT.frame (g' := glu) olvb fun q hq => by
      have hq1 := bllvb.2 q hq
      refine (show glu.get q = _ from llu.2 q (by first | omega | (simp only [hn_push, hn_set, hn_up]; omega) | (simp only [hn_push, hn_set, hn_up] at *; omega))).trans ?_
      first | rfl | (simp only [hg, H2.set, H2.push]; repeat (first | rfl | rw [if_neg (by first | omega | (unfold hn at *; omega))]))
    replace oloa := OT.frame (g' := glu) oloa fun q hq => by
      have hq1 := blloa.2 q hq
      refine (show glu.get q = _ from llu.2 q (by first | omega | (simp only [hn_push, hn_set, hn_up]; omega) | (simp only [hn_push, hn_set, hn_up] at *; omega))).trans ?_
      first | rfl | (simp only [hg, H2.set, H2.push]; repeat (first | rfl | rw [if_neg (by first | omega | (unfold hn at *; omega))]))
    replace olob := OT.frame (g' := glu) olob fun q hq => by
      have hq1 := bllob.2 q hq
      refine (show glu.get q = _ from llu.2 q (by first | omega | (simp only [hn_push, hn_set, hn_up]; omega) | (simp only [hn_push, hn_set, hn_up] at *; omega))).trans ?_
      first | rfl | (simp only [hg, H2.set, H2.push]; repeat (first | rfl | rw [if_neg (by first | omega | (unfold hn at *; omega))]))
    replace olb := OT.frame (g' := glu) olb fun q hq => by
      have hq1 := bllb.2 q hq
      refine (show glu.get q = _ from llu.2 q (by first | omega | (simp only [hn_push, hn_set, hn_up]; omega) | (simp only [hn_push, hn_set, hn_up] at *; omega))).trans ?_
      first | rfl | (simp only [hg, H2.set, H2.push]; repeat (first | rfl | rw [if_neg (by first | omega | (unfold hn at *; omega))]))
    first | (rw [kz_r]; refine ⟨by simp -dsimp -implicitDefEqProofs only [go_sem, rq1, rq2, rq3, rq4, rq5, rq6, rq7, hks, ei, q1, q2, hoo, hv, w1, ne7, ne8, rlu_0, rlu_1, cla, clqa, clqb, clka, clkb, clva, clvb, cloa, clob, clb, clua, club], ?_⟩) | skip
    repeat (first | rw [kz_o] | rw [kz_r0] | simp -dsimp -implicitDefEqProofs only [go_sem, rq1, rq2, rq3, rq4, rq5, rq6, rq7, hks, ei, q1, q2, hoo, hv, w1, ne7, ne8, rlu_0, rlu_1, cla, clqa, clqb, clka, clkb, clva, clvb, cloa, clob, clb, clua, club])
    refine wz_intro (cloneMatrix_new (F := (fun j => under (under (F 5) i) (j + 27))) (c := (c.layers.getD i default).down) (by omega)) ?_
    rintro _ gld ⟨lld, ysld, bbld, rfl, oold, blld⟩
    obtain ⟨blda, slda, bldb, sldb, rfl, rfl, olda, oldb⟩ := invMatrix oold
    have clda := OT.cell olda
    have cldb := OT.cell oldb
    have nld := lld.1
    try simp only [hn_push, hn_set] at nld blld
    have bllda := blld.split.1
    have blldb := blld.split.2.1
    have rld_0 := lld.2 (hn g .mk + 1 + 1) (by first | omega | (simp only [hn_push, hn_set, hn_up]; omega) | (simp only [hn_push, hn_set, hn_up] at *; omega))
    have rld_1 := lld.2 (hn h' .mk) (by first | omega | (simp only [hn_push, hn_set, hn_up]; omega) | (simp only [hn_push, hn_set, hn_up] at *; omega))
    simp -dsimp -implicitDefEqProofs only [go_sem, rq1, rq2, rq3, rq4, rq5, rq6, rq7, hks, ei, q1, q2, hoo, hv, w1, ne7, ne8, rlu_0, rlu_1] at rld_0 rld_1
    have Lld : h'.le gld := H2.le.trans (by repeat (first | exact Llu | exact H2.le.refl _ | apply le_push | refine le_set ?_ (by omega))) lld
    replace ola := OT.frame (g' := gld) ola fun q hq => by
      have hq1 := blla.2 q hq
      refine (show gld.get q = _ from lld.2 q (by first | omega | (simp only [hn_push, hn_set, hn_up]; omega) | (simp only [hn_push, hn_set, hn_up] at *; omega))).trans ?_
      first | rfl | (simp only [hg, H2.set, H2.push]; repeat (first | rfl | rw [if_neg (by first | omega | (unfold hn at *; omega))]))
    replace olqa := OT.frame (g' := gld) olqa fun q hq => by
      have hq1 := bllqa.2 q hq
      refine (show gld.get q = _ from lld.2 q (by first | omega | (simp only [hn_push, hn_set, hn_up]; omega) | (simp only [hn_push, hn_set, hn_up] at *; omega))).trans ?_
      first | rfl | (simp only [hg, H2.set, H2.push]; repeat (first | rfl | rw [if_neg (by first | omega | (unfold hn at *; omega))]))
    replace olqb := OT.frame (g' := gld) olqb fun q hq => by
      have hq1 := bllqb.2 q hq
      refine (show gld.get q = _ from lld.2 q (by first | omega | (simp only [hn_push, hn_set, hn_up]; omega) | (simp only [hn_push, hn_set, hn_up] at *; omega))).trans ?_
      first | rfl | (simp only [hg, H2.set, H2.push]; repeat (first | rfl | rw [if_neg (by first | omega | (unfold hn at *; omega))]))
    replace olka := OT.frame (g' := gld) olka fun q hq => by
      have hq1 := bllka.2 q hq
      refine (show gld.get q = _ from lld.2 q (by first | omega | (simp only [hn_push, hn_set, hn_up]; omega) | (simp only [hn_push, hn_set, hn_up] at *; omega))).trans ?_
      first | rfl | (simp only [hg, H2.set, H2.push]; repeat (first | rfl | rw [if_neg (by first | omega | (unfold hn at *; omega))]))
    replace olkb := OT.frame (g' := gld) olkb fun q hq => by
      have hq1 := bllkb.2 q hq
      refine (show gld.get q = _ from lld.2 q (by first | omega | (simp only [hn_push, hn_set, hn_up]; omega) | (simp only [hn_push, hn_set, hn_up] at *; omega))).trans ?_
      first | rfl | (simp only [hg, H2.set, H2.push]; repeat (first | rfl | rw [if_neg (by first | omega | (unfold hn at *; omega))]))
    replace olva := OT.frame (g' := gld) olva fun q hq => by
      have hq1 := bllva.2 q hq
      refine (show gld.get q = _ from lld.2 q (by first | omega | (simp only [hn_push, hn_set, hn_up]; omega) | (simp only [hn_push, hn_set, hn_up] at *; omega))).trans ?_
      first | rfl | (simp only [hg, H2.set, H2.push]; repeat (first | rfl | rw [if_neg (by first | omega | (unfold hn at *; omega))]))
    replace olvb := OT.frame (g' := gld) olvb fun q hq => by
      have hq1 := bllvb.2 q hq
      refine (show gld.get q = _ from lld.2 q (by first | omega | (simp only [hn_push, hn_set, hn_up]; omega) | (simp only [hn_push, hn_set, hn_up] at *; omega))).trans ?_
      first | rfl | (simp only [hg, H2.set, H2.push]; repeat (first | rfl | rw [if_neg (by first | omega | (unfold hn at *; omega))]))
    replace oloa := OT.frame (g' := gld) oloa fun q hq => by
      have hq1 := blloa.2 q hq
      refine (show gld.get q = _ from lld.2 q (by first | omega | (simp only [hn_push, hn_set, hn_up]; omega) | (simp only [hn_push, hn_set, hn_up] at *; omega))).trans ?_
      first | rfl | (simp only [hg, H2.set, H2.push]; repeat (first | rfl | rw [if_neg (by first | omega | (unfold hn at *; omega))]))
    replace olob := OT.frame (g' := gld) olob fun q hq => by
      have hq1 := bllob.2 q hq
      refine (show gld.get q = _ from lld.2 q (by first | omega | (simp only [hn_push, hn_set, hn_up]; omega) | (simp only [hn_push, hn_set, hn_up] at *; omega))).trans ?_
      first | rfl | (simp only [hg, H2.set, H2.push]; repeat (first | rfl | rw [if_neg (by first | omega | (unfold hn at *; omega))]))
    replace olb := OT.frame (g' := gld) olb fun q hq => by
      have hq1 := bllb.2 q hq
      refine (show gld.get q = _ from lld.2 q (by first | omega | (simp only [hn_push, hn_set, hn_up]; omega) | (simp only [hn_push, hn_set, hn_up] at *; omega))).trans ?_
      first | rfl | (simp only [hg, H2.set, H2.push]; repeat (first | rfl | rw [if_neg (by first | omega | (unfold hn at *; omega))]))
    replace olua := OT.frame (g' := gld) olua fun q hq => by
      have hq1 := bllua.2 q hq
      refine (show gld.get q = _ from lld.2 q (by first | omega | (simp only [hn_push, hn_set, hn_up]; omega) | (simp only [hn_push, hn_set, hn_up] at *; omega))).trans ?_
      first | rfl | (simp only [hg, H2.set, H2.push]; repeat (first | rfl | rw [if_neg (by first | omega | (unfold hn at *; omega))]))
    replace olub := OT.frame (g' := gld) olub fun q hq => by
      have hq1 := bllub.2 q hq
      refine (show gld.get q = _ from lld.2 q (by first | omega | (simp only [hn_push, hn_set, hn_up]; omega) | (simp only [hn_push, hn_set, hn_up] at *; omega))).trans ?_
      first | rfl | (simp only [hg, H2.set, H2.push]; repeat (first | rfl | rw [if_neg (by first | omega | (unfold hn at *; omega))]))
    first | (rw [kz_r]; refine ⟨by simp -dsimp -implicitDefEqProofs only [go_sem, rq1, rq2, rq3, rq4, rq5, rq6, rq7, hks, ei, q1, q2, hoo, hv, w1, ne7, ne8, rld_0, rld_1, cla, clqa, clqb, clka, clkb, clva, clvb, cloa, clob, clb, clua, club, clda, cldb], ?_⟩) | skip
    repeat (first | rw [kz_o] | rw [kz_r0] | simp -dsimp -implicitDefEqProofs only [go_sem, rq1, rq2, rq3, rq4, rq5, rq6, rq7, hks, ei, q1, q2, hoo, hv, w1, ne7, ne8, rld_0, rld_1, cla, clqa, clqb, clka, clkb, clva, clvb, cloa, clob, clb, clua, club, clda, cldb])
    refine lit_intro rfl ?_
    intro w9 g9 hs9 l9
    have n9 := l9.1
    try simp only [hn_push, hn_set] at n9
    have r9_0 := l9.2 (hn g .mk + 1 + 1) (by first | omega | (simp only [hn_push, hn_set, hn_up]; omega) | (simp only [hn_push, hn_set, hn_up] at *; omega))
    have r9_1 := l9.2 (hn h' .mk) (by first | omega | (simp only [hn_push, hn_set, hn_up]; omega) | (simp only [hn_push, hn_set, hn_up] at *; omega))
    simp -dsimp -implicitDefEqProofs only [go_sem, rq1, rq2, rq3, rq4, rq5, rq6, rq7, hks, ei, q1, q2, hoo, hv, w1, ne7, ne8, rld_0, rld_1] at r9_0 r9_1
    have L9 : h'.le g9 := H2.le.trans (by repeat (first | exact Lld | refine le_set ?_ (by omega))) l9
    first | (rw [kz_r]; refine ⟨by simp -dsimp -implicitDefEqProofs only [go_sem, rq1, rq2, rq3, rq4, rq5, rq6, rq7, hks, ei, q1, q2, hoo, hv, w1, ne7, ne8, r9_0, r9_1, cla, clqa, clqb, clka, clkb, clva, clvb, cloa, clob, clb, clua, club, clda, cldb], ?_⟩) | skip
    repeat (first | rw [kz_o] | rw [kz_r0] | simp -dsimp -implicitDefEqProofs only [go_sem, rq1, rq2, rq3, rq4, rq5, rq6, rq7, hks, ei, q1, q2, hoo, hv, w1, ne7, ne8, r9_0, r9_1, cla, clqa, clqb, clka, clkb, clva, clvb, cloa, clob, clb, clua, club, clda, cldb])
    replace ola := OT.frame (g' := g9) ola fun q hq => by
      have hq1 := blla.2 q hq
      refine (show g9.get q = _ from l9.2 q (by first | omega | (simp only [hn_push, hn_set, hn_up]; omega) | (simp only [hn_push, hn_set, hn_up] at *; omega))).trans ?_
      first | rfl | (simp only [hg, H2.set, H2.push]; repeat (first | rfl | rw [if_neg (by first | omega | (unfold hn at *; omega))]))
    replace olqa := OT.frame (g' := g9) olqa fun q hq => by
      have hq1 := bllqa.2 q hq
      refine (show g9.get q = _ from l9.2 q (by first | omega | (simp only [hn_push, hn_set, hn_up]; omega) | (simp only [hn_push, hn_set, hn_up] at *; omega))).trans ?_
      first | rfl | (simp only [hg, H2.set, H2.push]; repeat (first | rfl | rw [if_neg (by first | omega | (unfold hn at *; omega))]))
    replace olqb := OT.frame (g' := g9) olqb fun q hq => by
      have hq1 := bllqb.2 q hq
      refine (show g9.get q = _ from l9.2 q (by first | omega | (simp only [hn_push, hn_set, hn_up]; omega) | (simp only [hn_push, hn_set, hn_up] at *; omega))).trans ?_
      first | rfl | (simp only [hg, H2.set, H2.push]; repeat (first | rfl | rw [if_neg (by first | omega | (unfold hn at *; omega))]))
    replace olka := OT.frame (g' := g9) olka fun q hq => by
      have hq1 := bllka.2 q hq
      refine (show g9.get q = _ from l9.2 q (by first | omega | (simp only [hn_push, hn_set, hn_up]; omega) | (simp only [hn_push, hn_set, hn_up] at *; omega))).trans ?_
      first | rfl | (simp only [hg, H2.set, H2.push]; repeat (first | rfl | rw [if_neg (by first | omega | (unfold hn at *; omega))]))
    replace olkb := OT.frame (g' := g9) olkb fun q hq => by
      have hq1 := bllkb.2 q hq
      refine (show g9.get q = _ from l9.2 q (by first | omega | (simp only [hn_push, hn_set, hn_up]; omega) | (simp only [hn_push, hn_set, hn_up] at *; omega))).trans ?_
      first | rfl | (simp only [hg, H2.set, H2.push]; repeat (first | rfl | rw [if_neg (by first | omega | (unfold hn at *; omega))]))
    replace olva := OT.frame (g' := g9) olva fun q hq => by
      have hq1 := bllva.2 q hq
      refine (show g9.get q = _ from l9.2 q (by first | omega | (simp only [hn_push, hn_set, hn_up]; omega) | (simp only [hn_push, hn_set, hn_up] at *; omega))).trans ?_
      first | rfl | (simp only [hg, H2.set, H2.push]; repeat (first | rfl | rw [if_neg (by first | omega | (unfold hn at *; omega))]))
    replace olvb := OT.frame (g' := g9) olvb fun q hq => by
      have hq1 := bllvb.2 q hq
      refine (show g9.get q = _ from l9.2 q (by first | omega | (simp only [hn_push, hn_set, hn_up]; omega) | (simp only [hn_push, hn_set, hn_up] at *; omega))).trans ?_
      first | rfl | (simp only [hg, H2.set, H2.push]; repeat (first | rfl | rw [if_neg (by first | omega | (unfold hn at *; omega))]))
    replace oloa := OT.frame (g' := g9) oloa fun q hq => by
      have hq1 := blloa.2 q hq
      refine (show g9.get q = _ from l9.2 q (by first | omega | (simp only [hn_push, hn_set, hn_up]; omega) | (simp only [hn_push, hn_set, hn_up] at *; omega))).trans ?_
      first | rfl | (simp only [hg, H2.set, H2.push]; repeat (first | rfl | rw [if_neg (by first | omega | (unfold hn at *; omega))]))
    replace olob := OT.frame (g' := g9) olob fun q hq => by
      have hq1 := bllob.2 q hq
      refine (show g9.get q = _ from l9.2 q (by first | omega | (simp only [hn_push, hn_set, hn_up]; omega) | (simp only [hn_push, hn_set, hn_up] at *; omega))).trans ?_
      first | rfl | (simp only [hg, H2.set, H2.push]; repeat (first | rfl | rw [if_neg (by first | omega | (unfold hn at *; omega))]))
    replace olb := OT.frame (g' := g9) olb fun q hq => by
      have hq1 := bllb.2 q hq
      refine (show g9.get q = _ from l9.2 q (by first | omega | (simp only [hn_push, hn_set, hn_up]; omega) | (simp only [hn_push, hn_set, hn_up] at *; omega))).trans ?_
      first | rfl | (simp only [hg, H2.set, H2.push]; repeat (first | rfl | rw [if_neg (by first | omega | (unfold hn at *; omega))]))
    replace olua := OT.frame (g' := g9) olua fun q hq => by
      have hq1 := bllua.2 q hq
      refine (show g9.get q = _ from l9.2 q (by first | omega | (simp only [hn_push, hn_set, hn_up]; omega) | (simp only [hn_push, hn_set, hn_up] at *; omega))).trans ?_
      first | rfl | (simp only [hg, H2.set, H2.push]; repeat (first | rfl | rw [if_neg (by first | omega | (unfold hn at *; omega))]))
    replace olub := OT.frame (g' := g9) olub fun q hq => by
      have hq1 := bllub.2 q hq
      refine (show g9.get q = _ from l9.2 q (by first | omega | (simp only [hn_push, hn_set, hn_up]; omega) | (simp only [hn_push, hn_set, hn_up] at *; omega))).trans ?_
      first | rfl | (simp only [hg, H2.set, H2.push]; repeat (first | rfl | rw [if_neg (by first | omega | (unfold hn at *; omega))]))
    replace olda := OT.frame (g' := g9) olda fun q hq => by
      have hq1 := bllda.2 q hq
      refine (show g9.get q = _ from l9.2 q (by first | omega | (simp only [hn_push, hn_set, hn_up]; omega) | (simp only [hn_push, hn_set, hn_up] at *; omega))).trans ?_
      first | rfl | (simp only [hg, H2.set, H2.push]; repeat (first | rfl | rw [if_neg (by first | omega | (unfold hn at *; omega))]))
    replace oldb := OT.frame (g' := g9) oldb fun q hq => by
      have hq1 := blldb.2 q hq
      refine (show g9.get q = _ from l9.2 q (by first | omega | (simp only [hn_push, hn_set, hn_up]; omega) | (simp only [hn_push, hn_set, hn_up] at *; omega))).trans ?_
      first | rfl | (simp only [hg, H2.set, H2.push]; repeat (first | rfl | rw [if_neg (by first | omega | (unfold hn at *; omega))]))
    have oL := outLayer (c := c.layers.getD i default) ola olqa olqb olka olkb olva olvb oloa olob olb olua olub olda oldb
    have bA := (blla.append (bllq.append (bllk.append (bllv.append (bllo.append (bllb.append (bllu.append blld (by omega) (by omega)) (by omega) (by omega)) (by omega) (by omega)) (by omega) (by omega)) (by omega) (by omega)) (by omega) (by omega)) (by omega) (by omega))
    simp only [List.append_assoc] at bA
    have hvl := gr.lt
    have hLy : sumN szLayer c.layers ≤ 1048576 := by omega
    refine append_gr (P := Tryz.prog) (D := fun _ => none) (N := hn gw .mk) (us := eLayer (c.layers.getD i default)) Go.Ai.ty_el26 Go.Ai.ty_zr155 rfl Go.Ai.ty_cl26 (gr.keep L9) hs9 oL rfl (by omega) (fun b hb => by have := bA.2 b hb; omega) bA.1 (fun b hb hb' => by have := gr.bl b hb; have := bA.2 b hb'; omega) (fun b e hb' => by have := hvl b e; have := bA.2 b hb'; omega) (by have : Go.Ai.most = 1099511627776 := rfl; omega) ?_
    intro v' g10 gr10 n10 le10 fr10
    have rb := (fr10 (hn g .mk + 1 + 1) (by omega) (fun e => by have := hvl _ e; omega)).trans r9_0
    have hv' := Gr.cell gr10
    first | (rw [kz_r]; refine ⟨by simp -dsimp -implicitDefEqProofs only [go_sem, rq1, rq2, rq3, rq4, rq5, rq6, rq7, hks, ei, q1, q2, hoo, hv, w1, ne7, ne8, rb, hv'], ?_⟩) | skip
    repeat (first | rw [kz_o] | rw [kz_r0] | simp -dsimp -implicitDefEqProofs only [go_sem, rq1, rq2, rq3, rq4, rq5, rq6, rq7, hks, ei, q1, q2, hoo, hv, w1, ne7, ne8, rb, hv'])
    refine nx_keep (m - 1) (by omega) (by simp -dsimp -implicitDefEqProofs only [go_sem, rq1, rq2, rq3, rq4, rq5, rq6, rq7, hks]) ⟨i + 1, v', bs ++ (bla ++ (blqa ++ (blqb ++ (blka ++ (blkb ++ (blva ++ (blvb ++ (bloa ++ (blob ++ (blb ++ (blua ++ (blub ++ (blda ++ bldb))))))))))))), by simp -dsimp -implicitDefEqProofs only [go_sem, rq1, rq2, rq3, rq4, rq5, rq6, rq7, w1], by omega, by simp only [hn_set]; omega, fun b h1 h2 => ?_, by simp -dsimp -implicitDefEqProofs only [go_sem, rq1, rq2, rq3, rq4, rq5, rq6, rq7, hoo] <;> rfl, ?_⟩
    · rw [hg_set, show (b == hn g .mk + 1 + 1) = false by simp [h2]]
      refine ((fr10 b (by omega) (fun e => by have := hvl _ e; omega)).trans (L9.2 b (by omega))).trans (fr b h1 h2)
    · rw [flat_next q2]
      exact Gr.setB gr10 (by omega)
  · have r2' := (fr (hn g .mk + 1) (by omega) (by omega)).trans rw_1
    repeat (first | rw [kz_o] | rw [kz_r0] | simp -dsimp -implicitDefEqProofs only [go_sem, rq1, rq2, rq3, rq4, rq5, rq6, rq7, hks, ei, q1, r3, r2', hoo, hv, cm, ce, cg, cha, chb, cx, cw])
    have hi : i = c.layers.length := by omega
    rw [hi, List.take_length] at gr
    obtain ⟨b5, o5, bl5⟩ := Gr.tree (es := rLayerS c.layers) gr (by rw [rLayerS_len]) (fun e he => by obtain ⟨x, _, rfl⟩ := List.mem_map.1 he; rfl)
    have hle : g.le h' := ⟨by have := Lw.1; omega, fun b hb => (fr b (by have := Lw.1; omega) (by omega)).trans (Lw.2 b hb)⟩
    refine ⟨le_set hle (by omega), _, bm ++ (be ++ (b5 ++ (bg ++ (bha ++ (bhb ++ (bx ++ bw)))))), rfl, ?_, ?_⟩
    · exact outModel (c := c) ((om.frame (g' := h') fun q hq => by have := blm.2 q hq; exact fr q (by first | omega | (simp only [hn_push, hn_set, hn_up]; omega) | (simp only [hn_push, hn_set, hn_up] at *; omega)) (by omega)).setN blm (by omega)) ((oe.frame (g' := h') fun q hq => by have := ble.2 q hq; exact fr q (by first | omega | (simp only [hn_push, hn_set, hn_up]; omega) | (simp only [hn_push, hn_set, hn_up] at *; omega)) (by omega)).setN ble (by omega)) (o5.setN bl5 (by omega)) ((og.frame (g' := h') fun q hq => by have := blg.2 q hq; exact fr q (by first | omega | (simp only [hn_push, hn_set, hn_up]; omega) | (simp only [hn_push, hn_set, hn_up] at *; omega)) (by omega)).setN blg (by omega)) ((oha.frame (g' := h') fun q hq => by have := blha.2 q hq; exact fr q (by first | omega | (simp only [hn_push, hn_set, hn_up]; omega) | (simp only [hn_push, hn_set, hn_up] at *; omega)) (by omega)).setN blha (by omega)) ((ohb.frame (g' := h') fun q hq => by have := blhb.2 q hq; exact fr q (by first | omega | (simp only [hn_push, hn_set, hn_up]; omega) | (simp only [hn_push, hn_set, hn_up] at *; omega)) (by omega)).setN blhb (by omega)) ((ox.frame (g' := h') fun q hq => by have := blx.2 q hq; exact fr q (by first | omega | (simp only [hn_push, hn_set, hn_up]; omega) | (simp only [hn_push, hn_set, hn_up] at *; omega)) (by omega)).setN blx (by omega)) ((ow.frame (g' := h') fun q hq => by have := blw.2 q hq; exact fr q (by first | omega | (simp only [hn_push, hn_set, hn_up]; omega) | (simp only [hn_push, hn_set, hn_up] at *; omega)) (by omega)).setN blw (by omega))
    · simp only [hn_set]
      have hA := blm.append (ble.append (blg.append (blh.append (blx.append (blw.append bl5 (by omega) (by omega)) (by omega) (by omega)) (by omega) (by omega)) (by omega) (by omega)) (by omega) (by omega)) (by omega) (by omega)
      refine (Bl.perm hA ?_).wide (by omega) (Nat.le_refl _)
      have p1 := List.perm_append_comm (l₁ := bg ++ (bha ++ (bhb ++ (bx ++ bw)))) (l₂ := b5)
      simp only [List.append_assoc] at p1 ⊢
      exact List.Perm.append_left bm (List.Perm.append_left be p1)
end Go.Bi
end
