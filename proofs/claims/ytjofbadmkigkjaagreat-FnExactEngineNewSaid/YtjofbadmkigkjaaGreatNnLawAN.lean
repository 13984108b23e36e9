/- Own lemmas that the theorem of this claim needs: the abstract machine and walks of functions. -/
import Derived.Test.YtjofbadmkigkjaaGreatNnLawAA
import Derived.Test.YtjofbadmkigkjaaGreatNnLawAB
import Derived.Test.YtjofbadmkigkjaaGreatNnLawAC
import Derived.Test.YtjofbadmkigkjaaGreatNnLawAD
import Derived.Test.YtjofbadmkigkjaaGreatNnLawAE
import Derived.Test.YtjofbadmkigkjaaGreatNnLawAF
import Derived.Test.YtjofbadmkigkjaaGreatNnLawAG
import Derived.Test.YtjofbadmkigkjaaGreatNnLawAH
import Derived.Test.YtjofbadmkigkjaaGreatNnLawAI
import Derived.Test.YtjofbadmkigkjaaGreatNnLawAJ
import Derived.Test.YtjofbadmkigkjaaGreatNnLawAK
import Derived.Test.YtjofbadmkigkjaaGreatNnLawAL
import Derived.Test.YtjofbadmkigkjaaGreatNnLawAM
import Derived.Laws.Bits128
open Nat renaming reduceBEq → rq1, reduceAdd → rq2, reduceLeDiff → rq3, reduceMul → rq4
open Int renaming reduceLE → rq5, reduceLT → rq6, reduceBEq → rq7
section
set_option linter.unusedSimpArgs false
set_option linter.unusedVariables false
set_option maxRecDepth 20000
namespace Go.Bi
open Go.Proofs
open Go.Ai (wrap_i64 wrap_u8)
variable {W0 : World} {P : Program}
set_option maxHeartbeats 8000000
theorem app_ints {f : Adr} {h : H2} {K : KT} {zs : List Int} (hs : zs.length ≤ 1048576) (hk : ∀ y g' b, h.le g' → OT g' b y (.l 1 (ints zs)) → Bl (hn h .mk) (hn g' .mk) b → kz K y g' .mk) :
    az (biz Tryz.prog (h.push ⟨1, []⟩) .append [27, 27] [.raw (.slice (some ⟨hn h .mk, 0, none⟩) 0 0), .sl f 1 (ints zs)] .mk) K .mk := by
  refine append_ints (P := Tryz.prog) (D := fun _ => none) (N := hn h .mk) (xs := []) Go.Ai.ty_el27 Go.Ai.ty_zr3 Go.Ai.ty_cl27 (Own.new (Nat.le_refl _) rfl) (by simp only [hn_push]; omega) (by simp only [List.length_nil]; have : Go.Ai.most = 1099511627776 := rfl; omega) ?_
  intro y g1 oy n1 le1 fr1
  rw [List.nil_append] at oy
  obtain ⟨b, o, bl⟩ := OwnI.tree oy
  exact hk y g1 b (le1 h (Nat.le_refl _) (H2.le_push1 h _)) o bl
theorem app_merges {f : Adr} {h : H2} {K : KT} {zs : List LMerge} (hs : zs.length ≤ 1048576) (hk : ∀ y g' b, h.le g' → OT g' b y (.l 2 (rMergeS zs)) → Bl (hn h .mk) (hn g' .mk) b → kz K y g' .mk) :
    az (biz Tryz.prog (h.push ⟨2, []⟩) .append [24, 24] [.raw (.slice (some ⟨hn h .mk, 0, none⟩) 0 0), .sl f 2 (rMergeS zs)] .mk) K .mk := by
  refine append_merges (P := Tryz.prog) (D := fun _ => none) (N := hn h .mk) Go.Ai.ty_el24 Go.Ai.ty_zr169 rfl Go.Ai.ty_cl24 (Own.new (Nat.le_refl _) rfl) (by simp only [hn_push]; omega) (by have : Go.Ai.most = 1099511627776 := rfl; omega) ?_
  intro v' g' bs o' bl' n1 hle _
  exact hk v' g' bs (hle h (Nat.le_refl _) (H2.le_push1 h _)) o' (by first | exact bl' | exact bl'.wide (Nat.le_refl _) (Nat.le_refl _))
theorem copyModel_new {F : Nat → Adr} {c : LModel} {g : H2} (hs : szModel c ≤ 1048576) : NewS Tryz.prog W0 53 [.st (xModel F c)] g (eModel c) := by
  have hsz : szModel c = (c.merges.length + sumN szMerge c.merges) + szIntSS c.embed + (c.layers.length + sumN szLayer c.layers) + c.gainEnd.length + szMatrix c.head + (szIntSS c.turns.cos + szIntSS c.turns.sin) := rfl
  refine start (P := Tryz.prog) [[0], [1, 2], [1, 2], [1, 2], [1, 2, 3], [1, 2, 3, 4], [1, 2, 3, 4], [1, 2, 3, 4], [1, 2, 3, 4, 5], [1, 2, 3, 4, 5], [1, 2, 3, 4, 5], [1, 2, 3, 4, 5], [1, 2, 3, 4, 5], [1, 2, 3, 4, 5], [1, 2, 3, 4, 5], [1, 2, 3, 4, 5], [1, 2, 3, 4, 5], [1, 2, 3], [1, 2], [1, 2], [1, 2], [1, 2]] (by kernel_rfl) Tryz.func53 rfl (by decide) (by decide +kernel) (rs := [.cell 2 33]) rfl rfl (Nat.le_of_ble_eq_true rfl) ?_
  intro wf
  have ne1 : (hn g .mk == hn g .mk + 1) = false := by simp
  have ne2 : (hn g .mk == hn g .mk + 1 + 1) = false := by simp; omega
  have ne3 : (hn g .mk + 1 == hn g .mk + 1 + 1) = false := by simp
  have ne4 : (hn g .mk + 1 == hn g .mk) = false := by simp
  repeat (first | rw [kz_o] | rw [kz_r0] | simp -dsimp -implicitDefEqProofs only [go_sem, rq1, rq2, rq3, rq4, rq5, rq6, rq7, hoo, ne1, ne2, ne3, ne4])
  refine app_merges (by omega) ?_
  intro sm gm bm lm om blm
  have cm := OT.cell om
  have nm := lm.1
  try simp only [hn_push, hn_set] at nm blm
  have rm_0 := lm.2 (hn g .mk) (by first | omega | (simp only [hn_push, hn_set, hn_up]; omega) | (simp only [hn_push, hn_set, hn_up] at *; omega))
  have rm_1 := lm.2 (hn g .mk + 1) (by first | omega | (simp only [hn_push, hn_set, hn_up]; omega) | (simp only [hn_push, hn_set, hn_up] at *; omega))
  simp -dsimp -implicitDefEqProofs only [go_sem, rq1, rq2, rq3, rq4, rq5, rq6, rq7, hoo, ne1, ne2, ne3, ne4, hoo, hoo] at rm_0 rm_1
  have Lm : g.le gm := H2.le.trans (by repeat (first  | exact H2.le.refl _ | apply le_push | refine le_set ?_ (by omega))) lm
  have nxm_0 : ((hn g .mk) == hn gm .mk) = false := by simp; omega
  have nxm_1 : ((hn g .mk + 1) == hn gm .mk) = false := by simp; omega
  repeat (first | rw [kz_o] | rw [kz_r0] | simp -dsimp -implicitDefEqProofs only [go_sem, rq1, rq2, rq3, rq4, rq5, rq6, rq7, hoo, ne1, ne2, ne3, ne4, nxm_0, nxm_1, rm_0, rm_1, cm])
  refine wz_intro (copyLists_new (by omega)) ?_
  rintro se ge ⟨le, be, oe, ble⟩
  have ce := OT.cell oe
  have ne := le.1
  try simp only [hn_push, hn_set] at ne ble
  have re_0 := le.2 (hn g .mk) (by first | omega | (simp only [hn_push, hn_set, hn_up]; omega) | (simp only [hn_push, hn_set, hn_up] at *; omega))
  have re_1 := le.2 (hn g .mk + 1) (by first | omega | (simp only [hn_push, hn_set, hn_up]; omega) | (simp only [hn_push, hn_set, hn_up] at *; omega))
  simp -dsimp -implicitDefEqProofs only [go_sem, rq1, rq2, rq3, rq4, rq5, rq6, rq7, hoo, ne1, ne2, ne3, ne4, nxm_0, nxm_1, rm_0, rm_1] at re_0 re_1
  have Le : g.le ge := H2.le.trans (by repeat (first | exact Lm | exact H2.le.refl _ | apply le_push | refine le_set ?_ (by omega))) le
  replace om := OT.frame (g' := ge) om fun q hq => by
    have hq1 := blm.2 q hq
    refine (show ge.get q = _ from le.2 q (by first | omega | (simp only [hn_push, hn_set, hn_up]; omega) | (simp only [hn_push, hn_set, hn_up] at *; omega))).trans ?_
    first | rfl | (simp only [hg, H2.set, H2.push]; repeat (first | rfl | rw [if_neg (by first | omega | (unfold hn at *; omega))]))
  have nxe_0 : ((hn g .mk) == hn ge .mk) = false := by simp; omega
  have nxe_1 : ((hn g .mk + 1) == hn ge .mk) = false := by simp; omega
  repeat (first | rw [kz_o] | rw [kz_r0] | simp -dsimp -implicitDefEqProofs only [go_sem, rq1, rq2, rq3, rq4, rq5, rq6, rq7, hoo, ne1, ne2, ne3, ne4, nxm_0, nxm_1, nxe_0, nxe_1, re_0, re_1, cm, ce])
  refine lz_keep [1, 2] (fun m s h' => ∃ (i : Nat) (v : X) (bs : List Nat), look s 4 .mk = .raw (.int .i64 (i : Nat)) ∧ look s 3 .mk = v ∧ m + i = c.layers.length ∧ hn ge .mk ≤ hn h' .mk ∧ (∀ b, b < hn ge .mk → b ≠ hn g .mk → hg h' b .mk = hg ge b .mk) ∧ hg h' (hn g .mk) .mk = some ⟨14, [.raw (.int .i64 c.dim), .raw (.int .i64 c.heads), .raw (.int .i64 c.context), sm, se, .sl (F 5) 32 (rLayerS c.layers), .sl (F 6) 1 (ints c.gainEnd), .raw (.int .i64 c.head.width), .sl (F 8) 1 (rIntSS c.head.rows), .sl (F 9) 1 (rIntSS c.head.scales), .raw (.int .i64 c.head.mul), .raw (.int .i64 c.head.shift), .sl (F 12) 1 (rIntSS c.turns.cos), .sl (F 13) 1 (rIntSS c.turns.sin)]⟩ ∧ Gr (hn ge .mk) h' v 32 i (((c.layers.take i).map eLayer).flatten) bs) c.layers.length ?_ ?_
  · have ne9 : (hn g .mk == hn ge .mk) = false := by simp; omega
    refine ⟨0, .raw (.slice (some ⟨hn ge .mk, 0, none⟩) 0 0), [], by simp -dsimp -implicitDefEqProofs only [go_sem, rq1, rq2, rq3, rq4, rq5, rq6, rq7], by simp -dsimp -implicitDefEqProofs only [go_sem, rq1, rq2, rq3, rq4, rq5, rq6, rq7], by omega, by simp only [hn_push, hn_set]; omega, fun b h1 h2 => ?_, by simp -dsimp -implicitDefEqProofs only [go_sem, rq1, rq2, rq3, rq4, rq5, rq6, rq7, hoo, ne9] <;> rfl, Gr.empty (by simp only [hn_set]; omega)⟩
    rw [hg_push, hn_set, show (b == hn ge .mk) = false by simp; omega, hk_f, hg_set, show (b == hn g .mk) = false by simp [h2]]; rfl
  rintro m s h' hks ⟨i, v, bs, ei, ev, hm, hnn, fr, r1, gr⟩
  simp -dsimp -implicitDefEqProofs only [go_sem, rq1, rq2, rq3, rq4, rq5, rq6, rq7] at hks
  have hv := Gr.cell gr
  by_cases q1 : (i : Int) < (c.layers.length : Int)
  · have q2 : i < c.layers.length := by omega
    have w1 : IntKind.i64.wrap ((i : Int) + 1) = ((i + 1 : Nat) : Int) := wrap_succ q2 (by omega)
    have ne7 : ((hn g .mk) == hn h' .mk) = false := by simp; omega
    have ne8 : (hn h' .mk == (hn g .mk)) = false := by simp; omega
    have ne10 : (hn h' .mk == hn h' .mk + 1) = false := by simp
    have hsl : szLayer (c.layers.getD i default) ≤ sumN szLayer c.layers := sumN_mem (f := szLayer) (getD_mem q2)
    have hszL : szLayer (c.layers.getD i default) = (c.layers.getD i default).gain1.length + szMatrix (c.layers.getD i default).q + szMatrix (c.layers.getD i default).k + szMatrix (c.layers.getD i default).v + szMatrix (c.layers.getD i default).o + (c.layers.getD i default).gain2.length + szMatrix (c.layers.getD i default).up + szMatrix (c.layers.getD i default).down := rfl
    repeat (first | rw [kz_o] | rw [kz_r0] | simp -dsimp -implicitDefEqProofs only [go_sem, rq1, rq2, rq3, rq4, rq5, rq6, rq7, hks, ei, ev, q1, q2, hoo, hv, w1, ne7, ne8, ne10, r1])
    refine app_ints (by omega) ?_
    intro sla gla bla lla ola blla
    have cla := OT.cell ola
    have nla := lla.1
    try simp only [hn_push, hn_set] at nla blla
    have rla_0 := lla.2 (hn g .mk) (by first | omega | (simp only [hn_push, hn_set, hn_up]; omega) | (simp only [hn_push, hn_set, hn_up] at *; omega))
    have rla_1 := lla.2 (hn h' .mk) (by first | omega | (simp only [hn_push, hn_set, hn_up]; omega) | (simp only [hn_push, hn_set, hn_up] at *; omega))
    simp -dsimp -implicitDefEqProofs only [go_sem, rq1, rq2, rq3, rq4, rq5, rq6, rq7, hks, ei, ev, q1, q2, hoo, hv, w1, ne7, ne8, ne10, r1, hoo] at rla_0 rla_1
    have Lla : h'.le gla := H2.le.trans (by repeat (first  | exact H2.le.refl _ | apply le_push | refine le_set ?_ (by omega))) lla
    have nxla_0 : ((hn g .mk) == hn gla .mk) = false := by simp; omega
    have nxla_1 : ((hn h' .mk) == hn gla .mk) = false := by simp; omega
    repeat (first | rw [kz_o] | rw [kz_r0] | simp -dsimp -implicitDefEqProofs only [go_sem, rq1, rq2, rq3, rq4, rq5, rq6, rq7, hks, ei, ev, q1, q2, hoo, hv, w1, ne7, ne8, ne10, nxla_0, nxla_1, rla_0, rla_1, cla])
    refine app_ints (by omega) ?_
    intro slb glb blb llb olb bllb
    have clb := OT.cell olb
    have nlb := llb.1
    try simp only [hn_push, hn_set] at nlb bllb
    have rlb_0 := llb.2 (hn g .mk) (by first | omega | (simp only [hn_push, hn_set, hn_up]; omega) | (simp only [hn_push, hn_set, hn_up] at *; omega))
    have rlb_1 := llb.2 (hn h' .mk) (by first | omega | (simp only [hn_push, hn_set, hn_up]; omega) | (simp only [hn_push, hn_set, hn_up] at *; omega))
    simp -dsimp -implicitDefEqProofs only [go_sem, rq1, rq2, rq3, rq4, rq5, rq6, rq7, hks, ei, ev, q1, q2, hoo, hv, w1, ne7, ne8, ne10, nxla_0, nxla_1, rla_0, rla_1] at rlb_0 rlb_1
    have Llb : h'.le glb := H2.le.trans (by repeat (first | exact Lla | exact H2.le.refl _ | apply le_push | refine le_set ?_ (by omega))) llb
    replace ola := OT.frame (g' := glb) ola fun q hq => by
      have hq1 := blla.2 q hq
      refine (show glb.get q = _ from llb.2 q (by first | omega | (simp only [hn_push, hn_set, hn_up]; omega) | (simp only [hn_push, hn_set, hn_up] at *; omega))).trans ?_
      first | rfl | (simp only [hg, H2.set, H2.push]; repeat (first | rfl | rw [if_neg (by first | omega | (unfold hn at *; omega))]))
    have nxlb_0 : ((hn g .mk) == hn glb .mk) = false := by simp; omega
    have nxlb_1 : ((hn h' .mk) == hn glb .mk) = false := by simp; omega
    repeat (first | rw [kz_o] | rw [kz_r0] | simp -dsimp -implicitDefEqProofs only [go_sem, rq1, rq2, rq3, rq4, rq5, rq6, rq7, hks, ei, ev, q1, q2, hoo, hv, w1, ne7, ne8, ne10, nxla_0, nxla_1, nxlb_0, nxlb_1, rlb_0, rlb_1, cla, clb])
    refine wz_intro (copyMatrix_new (F := (fun j => under (under (F 5) i) (j + 1))) (c := (c.layers.getD i default).q) (by omega)) ?_
    rintro _ glq ⟨llq, yslq, bblq, rfl, oolq, bllq⟩
    obtain ⟨blqa, slqa, blqb, slqb, rfl, rfl, olqa, olqb⟩ := invMatrix oolq
    have clqa := OT.cell olqa
    have clqb := OT.cell olqb
    have nlq := llq.1
    try simp only [hn_push, hn_set] at nlq bllq
    have bllqa := bllq.split.1
    have bllqb := bllq.split.2.1
    have rlq_0 := llq.2 (hn g .mk) (by first | omega | (simp only [hn_push, hn_set, hn_up]; omega) | (simp only [hn_push, hn_set, hn_up] at *; omega))
    have rlq_1 := llq.2 (hn h' .mk) (by first | omega | (simp only [hn_push, hn_set, hn_up]; omega) | (simp only [hn_push, hn_set, hn_up] at *; omega))
    simp -dsimp -implicitDefEqProofs only [go_sem, rq1, rq2, rq3, rq4, rq5, rq6, rq7, hks, ei, ev, q1, q2, hoo, hv, w1, ne7, ne8, ne10, nxla_0, nxla_1, nxlb_0, nxlb_1, rlb_0, rlb_1] at rlq_0 rlq_1
    have Llq : h'.le glq := H2.le.trans (by repeat (first | exact Llb | exact H2.le.refl _ | apply le_push | refine le_set ?_ (by omega))) llq
    replace ola := OT.frame (g' := glq) ola fun q hq => by
      have hq1 := blla.2 q hq
      refine (show glq.get q = _ from llq.2 q (by first | omega | (simp only [hn_push, hn_set, hn_up]; omega) | (simp only [hn_push, hn_set, hn_up] at *; omega))).trans ?_
      first | rfl | (simp only [hg, H2.set, H2.push]; repeat (first | rfl | rw [if_neg (by first | omega | (unfold hn at *; omega))]))
    replace olb := OT.frame (g' := glq) olb fun q hq => by
      have hq1 := bllb.2 q hq
      refine (show glq.get q = _ from llq.2 q (by first | omega | (simp only [hn_push, hn_set, hn_up]; omega) | (simp only [hn_push, hn_set, hn_up] at *; omega))).trans ?_
      first | rfl | (simp only [hg, H2.set, H2.push]; repeat (first | rfl | rw [if_neg (by first | omega | (unfold hn at *; omega))]))
    have nxlq_0 : ((hn g .mk) == hn glq .mk) = false := by simp; omega
    have nxlq_1 : ((hn h' .mk) == hn glq .mk) = false := by simp; omega
    repeat (first | rw [kz_o] | rw [kz_r0] | simp -dsimp -implicitDefEqProofs only [go_sem, rq1, rq2, rq3, rq4, rq5, rq6, rq7, hks, ei, ev, q1, q2, hoo, hv, w1, ne7, ne8, ne10, nxla_0, nxla_1, nxlb_0, nxlb_1, nxlq_0, nxlq_1, rlq_0, rlq_1, cla, clb, clqa, clqb])
    refine wz_intro (copyMatrix_new (F := (fun j => under (under (F 5) i) (j + 6))) (c := (c.layers.getD i default).k) (by omega)) ?_
    rintro _ glk ⟨llk, yslk, bblk, rfl, oolk, bllk⟩
    obtain ⟨blka, slka, blkb, slkb, rfl, rfl, olka, olkb⟩ := invMatrix oolk
    have clka := OT.cell olka
    have clkb := OT.cell olkb
    have nlk := llk.1
    try simp only [hn_push, hn_set] at nlk bllk
    have bllka := bllk.split.1
    have bllkb := bllk.split.2.1
    have rlk_0 := llk.2 (hn g .mk) (by first | omega | (simp only [hn_push, hn_set, hn_up]; omega) | (simp only [hn_push, hn_set, hn_up] at *; omega))
    have rlk_1 := llk.2 (hn h' .mk) (by first | omega | (simp only [hn_push, hn_set, hn_up]; omega) | (simp only [hn_push, hn_set, hn_up] at *; omega))
    simp -dsimp -implicitDefEqProofs only [go_sem, rq1, rq2, rq3, rq4, rq5, rq6, rq7, hks, ei, ev, q1, q2, hoo, hv, w1, ne7, ne8, ne10, nxla_0, nxla_1, nxlb_0, nxlb_1, nxlq_0, nxlq_1, rlq_0, rlq_1] at rlk_0 rlk_1
    have Llk : h'.le glk := H2.le.trans (by repeat (first | exact Llq | exact H2.le.refl _ | apply le_push | refine le_set ?_ (by omega))) llk
    replace ola := OT.frame (g' := glk) ola fun q hq => by
      have hq1 := blla.2 q hq
      refine (show glk.get q = _ from llk.2 q (by first | omega | (simp only [hn_push, hn_set, hn_up]; omega) | (simp only [hn_push, hn_set, hn_up] at *; omega))).trans ?_
      first | rfl | (simp only [hg, H2.set, H2.push]; repeat (first | rfl | rw [if_neg (by first | omega | (unfold hn at *; omega))]))
    replace olb := OT.frame (g' := glk) olb fun q hq => by
      have hq1 := bllb.2 q hq
      refine (show glk.get q = _ from llk.2 q (by first | omega | (simp only [hn_push, hn_set, hn_up]; omega) | (simp only [hn_push, hn_set, hn_up] at *; omega))).trans ?_
      first | rfl | (simp only [hg, H2.set, H2.push]; repeat (first | rfl | rw [if_neg (by first | omega | (unfold hn at *; omega))]))
    replace olqa := OT.frame (g' := glk) olqa fun q hq => by
      have hq1 := bllqa.2 q hq
      refine (show glk.get q = _ from llk.2 q (by first | omega | (simp only [hn_push, hn_set, hn_up]; omega) | (simp only [hn_push, hn_set, hn_up] at *; omega))).trans ?_
      first | rfl | (simp only [hg, H2.set, H2.push]; repeat (first | rfl | rw [if_neg (by first | omega | (unfold hn at *; omega))]))
    replace olqb := OT.frame (g' := glk) olqb fun q hq => by
      have hq1 := bllqb.2 q hq
      refine (show glk.get q = _ from llk.2 q (by first | omega | (simp only [hn_push, hn_set, hn_up]; omega) | (simp only [hn_push, hn_set, hn_up] at *; omega))).trans ?_
      first | rfl | (simp only [hg, H2.set, H2.push]; repeat (first | rfl | rw [if_neg (by first | omega | (unfold hn at *; omega))]))
    have nxlk_0 : ((hn g .mk) == hn glk .mk) = false := by simp; omega
    have nxlk_1 : ((hn h' .mk) == hn glk .mk) = false := by simp; omega
    repeat (first | rw [kz_o] | rw [kz_r0] | simp -dsimp -implicitDefEqProofs only [go_sem, rq1, rq2, rq3, rq4, rq5, rq6, rq7, hks, ei, ev, q1, q2, hoo, hv, w1, ne7, ne8, ne10, nxla_0, nxla_1, nxlb_0, nxlb_1, nxlq_0, nxlq_1, nxlk_0, nxlk_1, rlk_0, rlk_1, cla, clb, clqa, clqb, clka, clkb])
    refine wz_intro (copyMatrix_new (F := (fun j => under (under (F 5) i) (j + 11))) (c := (c.layers.getD i default).v) (by omega)) ?_
    rintro _ glv ⟨llv, yslv, bblv, rfl, oolv, bllv⟩
    obtain ⟨blva, slva, blvb, slvb, rfl, rfl, olva, olvb⟩ := invMatrix oolv
    have clva := OT.cell olva
    have clvb := OT.cell olvb
    have nlv := llv.1
    try simp only [hn_push, hn_set] at nlv bllv
    have bllva := bllv.split.1
    have bllvb := bllv.split.2.1
    have rlv_0 := llv.2 (hn g .mk) (by first | omega | (simp only [hn_push, hn_set, hn_up]; omega) | (simp only [hn_push, hn_set, hn_up] at *; omega))
    have rlv_1 := llv.2 (hn h' .mk) (by first | omega | (simp only [hn_push, hn_set, hn_up]; omega) | (simp only [hn_push, hn_set, hn_up] at *; omega))
    simp -dsimp -implicitDefEqProofs only [go_sem, rq1, rq2, rq3, rq4, rq5, rq6, rq7, hks, ei, ev, q1, q2, hoo, hv, w1, ne7, ne8, ne10, nxla_0, nxla_1, nxlb_0, nxlb_1, nxlq_0, nxlq_1, nxlk_0, nxlk_1, rlk_0, rlk_1] at rlv_0 rlv_1
    have Llv : h'.le glv := H2.le.trans (by repeat (first | exact Llk | exact H2.le.refl _ | apply le_push | refine le_set ?_ (by omega))) llv
    replace ola := OT.frame (g' := glv) ola fun q hq => by
      have hq1 := blla.2 q hq
      refine (show glv.get q = _ from llv.2 q (by first | omega | (simp only [hn_push, hn_set, hn_up]; omega) | (simp only [hn_push, hn_set, hn_up] at *; omega))).trans ?_
      first | rfl | (simp only [hg, H2.set, H2.push]; repeat (first | rfl | rw [if_neg (by first | omega | (unfold hn at *; omega))]))
    replace olb := OT.frame (g' := glv) olb fun q hq => by
      have hq1 := bllb.2 q hq
      refine (show glv.get q = _ from llv.2 q (by first | omega | (simp only [hn_push, hn_set, hn_up]; omega) | (simp only [hn_push, hn_set, hn_up] at *; omega))).trans ?_
      first | rfl | (simp only [hg, H2.set, H2.push]; repeat (first | rfl | rw [if_neg (by first | omega | (unfold hn at *; omega))]))
    replace olqa := OT.frame (g' := glv) olqa fun q hq => by
      have hq1 := bllqa.2 q hq
      refine (show glv.get q = _ from llv.2 q (by first | omega | (simp only [hn_push, hn_set, hn_up]; omega) | (simp only [hn_push, hn_set, hn_up] at *; omega))).trans ?_
      first | rfl | (simp only [hg, H2.set, H2.push]; repeat (first | rfl | rw [if_neg (by first | omega | (unfold hn at *; omega))]))
    replace olqb := OT.frame (g' := glv) olqb fun q hq => by
      have hq1 := bllqb.2 q hq
      refine (show glv.get q = _ from llv.2 q (by first | omega | (simp only [hn_push, hn_set, hn_up]; omega) | (simp only [hn_push, hn_set, hn_up] at *; omega))).trans ?_
      first | rfl | (simp only [hg, H2.set, H2.push]; repeat (first | rfl | rw [if_neg (by first | omega | (unfold hn at *; omega))]))
    replace olka := OT.frame (g' := glv) olka fun q hq => by
      have hq1 := bllka.2 q hq
      refine (show glv.get q = _ from llv.2 q (by first | omega | (simp only [hn_push, hn_set, hn_up]; omega) | (simp only [hn_push, hn_set, hn_up] at *; omega))).trans ?_
      first | rfl | (simp only [hg, H2.set, H2.push]; repeat (first | rfl | rw [if_neg (by first | omega | (unfold hn at *; omega))]))
    replace olkb := OT.frame (g' := glv) olkb fun q hq => by
      have hq1 := bllkb.2 q hq
      refine (show glv.get q = _ from llv.2 q (by first | omega | (simp only [hn_push, hn_set, hn_up]; omega) | (simp only [hn_push, hn_set, hn_up] at *; omega))).trans ?_
      first | rfl | (simp only [hg, H2.set, H2.push]; repeat (first | rfl | rw [if_neg (by first | omega | (unfold hn at *; omega))]))
    have nxlv_0 : ((hn g .mk) == hn glv .mk) = false := by simp; omega
    have nxlv_1 : ((hn h' .mk) == hn glv .mk) = false := by simp; omega
    repeat (first | rw [kz_o] | rw [kz_r0] | simp -dsimp -implicitDefEqProofs only [go_sem, rq1, rq2, rq3, rq4, rq5, rq6, rq7, hks, ei, ev, q1, q2, hoo, hv, w1, ne7, ne8, ne10, nxla_0, nxla_1, nxlb_0, nxlb_1, nxlq_0, nxlq_1, nxlk_0, nxlk_1, nxlv_0, nxlv_1, rlv_0, rlv_1, cla, clb, clqa, clqb, clka, clkb, clva, clvb])
    refine wz_intro (copyMatrix_new (F := (fun j => under (under (F 5) i) (j + 16))) (c := (c.layers.getD i default).o) (by omega)) ?_
    rintro _ glo ⟨llo, yslo, bblo, rfl, oolo, bllo⟩
    obtain ⟨bloa, sloa, blob, slob, rfl, rfl, oloa, olob⟩ := invMatrix oolo
    have cloa := OT.cell oloa
    have clob := OT.cell olob
    have nlo := llo.1
    try simp only [hn_push, hn_set] at nlo bllo
    have blloa := bllo.split.1
    have bllob := bllo.split.2.1
    have rlo_0 := llo.2 (hn g .mk) (by first | omega | (simp only [hn_push, hn_set, hn_up]; omega) | (simp only [hn_push, hn_set, hn_up] at *; omega))
    have rlo_1 := llo.2 (hn h' .mk) (by first | omega | (simp only [hn_push, hn_set, hn_up]; omega) | (simp only [hn_push, hn_set, hn_up] at *; omega))
    simp -dsimp -implicitDefEqProofs only [go_sem, rq1, rq2, rq3, rq4, rq5, rq6, rq7, hks, ei, ev, q1, q2, hoo, hv, w1, ne7, ne8, ne10, nxla_0, nxla_1, nxlb_0, nxlb_1, nxlq_0, nxlq_1, nxlk_0, nxlk_1, nxlv_0, nxlv_1, rlv_0, rlv_1] at rlo_0 rlo_1
    have Llo : h'.le glo := H2.le.trans (by repeat (first | exact Llv | exact H2.le.refl _ | apply le_push | refine le_set ?_ (by omega))) llo
    replace ola := OT.frame (g' := glo) ola fun q hq => by
      have hq1 := blla.2 q hq
      refine (show glo.get q = _ from llo.2 q (by first | omega | (simp only [hn_push, hn_set, hn_up]; omega) | (simp only [hn_push, hn_set, hn_up] at *; omega))).trans ?_
      first | rfl | (simp only [hg, H2.set, H2.push]; repeat (first | rfl | rw [if_neg (by first | omega | (unfold hn at *; omega))]))
    replace olb := OT.frame (g' := glo) olb fun q hq => by
      have hq1 := bllb.2 q hq
      refine (show glo.get q = _ from llo.2 q (by first | omega | (simp only [hn_push, hn_set, hn_up]; omega) | (simp only [hn_push, hn_set, hn_up] at *; omega))).trans ?_
      first | rfl | (simp only [hg, H2.set, H2.push]; repeat (first | rfl | rw [if_neg (by first | omega | (unfold hn at *; omega))]))
    replace olqa := OT.frame (g' := glo) olqa fun q hq => by
      have hq1 := bllqa.2 q hq
      refine (show glo.get q = _ from llo.2 q (by first | omega | (simp only [hn_push, hn_set, hn_up]; omega) | (simp only [hn_push, hn_set, hn_up] at *; omega))).trans ?_
      first | rfl | (simp only [hg, H2.set, H2.push]; repeat (first | rfl | rw [if_neg (by first | omega | (unfold hn at *; omega))]))
    replace olqb := OT.frame (g' := glo) olqb fun q hq => by
      have hq1 := bllqb.2 q hq
      refine (show glo.get q = _ from llo.2 q (by first | omega | (simp only [hn_push, hn_set, hn_up]; omega) | (simp only [hn_push, hn_set, hn_up] at *; omega))).trans ?_
      first | rfl | (simp only [hg, H2.set, H2.push]; repeat (first | rfl | rw [if_neg (by first | omega | (unfold hn at *; omega))]))
    replace olka := OT.frame (g' := glo) olka fun q hq => by
      have hq1 := bllka.2 q hq
      refine (show glo.get q = _ from llo.2 q (by first | omega | (simp only [hn_push, hn_set, hn_up]; omega) | (simp only [hn_push, hn_set, hn_up] at *; omega))).trans ?_
      first | rfl | (simp only [hg, H2.set, H2.push]; repeat (first | rfl | rw [if_neg (by first | omega | (unfold hn at *; omega))]))
    replace olkb := OT.frame (g' := glo) olkb fun q hq => by
      have hq1 := bllkb.2 q hq
      refine (show glo.get q = _ from llo.2 q (by first | omega | (simp only [hn_push, hn_set, hn_up]; omega) | (simp only [hn_push, hn_set, hn_up] at *; omega))).trans ?_
      first | rfl | (simp only [hg, H2.set, H2.push]; repeat (first | rfl | rw [if_neg (by first | omega | (unfold hn at *; omega))]))
    replace olva := OT.frame (g' := glo) olva fun q hq => by
      have hq1 := bllva.2 q hq
      refine (show glo.get q = _ from llo.2 q (by first | omega | (simp only [hn_push, hn_set, hn_up]; omega) | (simp only [hn_push, hn_set, hn_up] at *; omega))).trans ?_
      first | rfl | (simp only [hg, H2.set, H2.push]; repeat (first | rfl | rw [if_neg (by first | omega | (unfold hn at *; omega))]))
    replace olvb := OT.frame (g' := glo) olvb fun q hq => by
      have hq1 := bllvb.2 q hq
      refine (show glo.get q = _ from llo.2 q (by first | omega | (simp only [hn_push, hn_set, hn_up]; omega) | (simp only [hn_push, hn_set, hn_up] at *; omega))).trans ?_
      first | rfl | (simp only [hg, H2.set, H2.push]; repeat (first | rfl | rw [if_neg (by first | omega | (unfold hn at *; omega))]))
    have nxlo_0 : ((hn g .mk) == hn glo .mk) = false := by simp; omega
    have nxlo_1 : ((hn h' .mk) == hn glo .mk) = false := by simp; omega
    repeat (first | rw [kz_o] | rw [kz_r0] | simp -dsimp -implicitDefEqProofs only [go_sem, rq1, rq2, rq3, rq4, rq5, rq6, rq7, hks, ei, ev, q1, q2, hoo, hv, w1, ne7, ne8, ne10, nxla_0, nxla_1, nxlb_0, nxlb_1, nxlq_0, nxlq_1, nxlk_0, nxlk_1, nxlv_0, nxlv_1, nxlo_0, nxlo_1, rlo_0, rlo_1, cla, clb, clqa, clqb, clka, clkb, clva, clvb, cloa, clob])
    refine wz_intro (copyMatrix_new (F := (fun j => under (under (F 5) i) (j + 22))) (c := (c.layers.getD i default).up) (by omega)) ?_
    rintro _ glu ⟨llu, yslu, bblu, rfl, oolu, bllu⟩
    obtain ⟨blua, slua, blub, slub, rfl, rfl, olua, olub⟩ := invMatrix oolu
    have clua := OT.cell olua
    have club := OT.cell olub
    have nlu := llu.1
    try simp only [hn_push, hn_set] at nlu bllu
    have bllua := bllu.split.1
    have bllub := bllu.split.2.1
    have rlu_0 := llu.2 (hn g .mk) (by first | omega | (simp only [hn_push, hn_set, hn_up]; omega) | (simp only [hn_push, hn_set, hn_up] at *; omega))
    have rlu_1 := llu.2 (hn h' .mk) (by first | omega | (simp only [hn_push, hn_set, hn_up]; omega) | (simp only [hn_push, hn_set, hn_up] at *; omega))
    simp -dsimp -implicitDefEqProofs only [go_sem, rq1, rq2, rq3, rq4, rq5, rq6, rq7, hks, ei, ev, q1, q2, hoo, hv, w1, ne7, ne8, ne10, nxla_0, nxla_1, nxlb_0, nxlb_1, nxlq_0, nxlq_1, nxlk_0, nxlk_1, nxlv_0, nxlv_1, nxlo_0, nxlo_1, rlo_0, rlo_1] at rlu_0 rlu_1
    have Llu : h'.le glu := H2.le.trans (by repeat (first | exact Llo | exact H2.le.refl _ | apply le_push | refine le_set ?_ (by omega))) llu
    replace ola := OT.frame (g' := glu) ola fun q hq => by
      have hq1 := blla.2 q hq
      refine (show glu.get q = _ from llu.2 q (by first | omega | (simp only [hn_push, hn_set, hn_up]; omega) | (simp only [hn_push, hn_set, hn_up] at *; omega))).trans ?_
      first | rfl | (simp only [hg, H2.set, H2.push]; repeat (first | rfl | rw [if_neg (by first | omega | (unfold hn at *; omega))]))
    replace olb := OT.frame (g' := glu) olb fun q hq => by
      have hq1 := bllb.2 q hq
      refine (show glu.get q = _ from llu.2 q (by first | omega | (simp only [hn_push, hn_set, hn_up]; omega) | (simp only [hn_push, hn_set, hn_up] at *; omega))).trans ?_
      first | rfl | (simp only [hg, H2.set, H2.push]; repeat (first | rfl | rw [if_neg (by first | omega | (unfold hn at *; omega))]))
    replace olqa := OT.frame (g' := glu) olqa fun q hq => by
      have hq1 := bllqa.2 q hq
      refine (show glu.get q = _ from llu.2 q (by first | omega | (simp only [hn_push, hn_set, hn_up]; omega) | (simp only [hn_push, hn_set, hn_up] at *; omega))).trans ?_
      first | rfl | (simp only [hg, H2.set, H2.push]; repeat (first | rfl | rw [if_neg (by first | omega | (unfold hn at *; omega))]))
    replace olqb := OT.frame (g' := glu) olqb fun q hq => by
      have hq1 := bllqb.2 q hq
      refine (show glu.get q = _ from llu.2 q (by first | omega | (simp only [hn_push, hn_set, hn_up]; omega) | (simp only [hn_push, hn_set, hn_up] at *; omega))).trans ?_
      first | rfl | (simp only [hg, H2.set, H2.push]; repeat (first | rfl | rw [if_neg (by first | omega | (unfold hn at *; omega))]))
    replace olka := OT.frame (g' := glu) olka fun q hq => by
      have hq1 := bllka.2 q hq
      refine (show glu.get q = _ from llu.2 q (by first | omega | (simp only [hn_push, hn_set, hn_up]; omega) | (simp only [hn_push, hn_set, hn_up] at *; omega))).trans ?_
      first | rfl | (simp only [hg, H2.set, H2.push]; repeat (first | rfl | rw [if_neg (by first | omega | (unfold hn at *; omega))]))
    replace olkb := OT.frame (g' := glu) olkb fun q hq => by
      have hq1 := bllkb.2 q hq
      refine (show glu.get q = _ from llu.2 q (by first | omega | (simp only [hn_push, hn_set, hn_up]; omega) | (simp only [hn_push, hn_set, hn_up] at *; omega))).trans ?_
      first | rfl | (simp only [hg, H2.set, H2.push]; repeat (first | rfl | rw [if_neg (by first | omega | (unfold hn at *; omega))]))
    replace olva := OT.frame (g' := glu) olva fun q hq => by
      have hq1 := bllva.2 q hq
      refine (show glu.get q = _ from llu.2 q (by first | omega | (simp only [hn_push, hn_set, hn_up]; omega) | (simp only [hn_push, hn_set, hn_up] at *; omega))).trans ?_
      first | rfl | (simp only [hg, H2.set, H2.push]; repeat (first | rfl | rw [if_neg (by first | omega | (unfold hn at *; omega))]))
    replace olvb := OT.frame (g' := glu) olvb fun q hq => by
      have hq1 := bllvb.2 q hq
      refine (show glu.get q = _ from llu.2 q (by first | omega | (simp only [hn_push, hn_set, hn_up]; omega) | (simp only [hn_push, hn_set, hn_up] at *; omega))).trans ?_
      first | rfl | (simp only [hg, H2.set, H2.push]; repeat (first | rfl | rw [if_neg (by first | omega | (unfold hn at *; omega))]))
    replace oloa := OT.frame (g' := glu) oloa fun q hq => by
      have hq1 := blloa.2 q hq
      refine (show glu.get q = _ from llu.2 q (by first | omega | (simp only [hn_push, hn_set, hn_up]; omega) | (simp only [hn_push, hn_set, hn_up] at *; omega))).trans ?_
      first | rfl | (simp only [hg, H2.set, H2.push]; repeat (first | rfl | rw [if_neg (by first | omega | (unfold hn at *; omega))]))
    replace olob := OT.frame (g' := glu) olob fun q hq => by
      have hq1 := bllob.2 q hq
      refine (show glu.get q = _ from llu.2 q (by first | omega | (simp only [hn_push, hn_set, hn_up]; omega) | (simp only [hn_push, hn_set, hn_up] at *; omega))).trans ?_
      first | rfl | (simp only [hg, H2.set, H2.push]; repeat (first | rfl | rw [if_neg (by first | omega | (unfold hn at *; omega))]))
    have nxlu_0 : ((hn g .mk) == hn glu .mk) = false := by simp; omega
    have nxlu_1 : ((hn h' .mk) == hn glu .mk) = false := by simp; omega
    repeat (first | rw [kz_o] | rw [kz_r0] | simp -dsimp -implicitDefEqProofs only [go_sem, rq1, rq2, rq3, rq4, rq5, rq6, rq7, hks, ei, ev, q1, q2, hoo, hv, w1, ne7, ne8, ne10, nxla_0, nxla_1, nxlb_0, nxlb_1, nxlq_0, nxlq_1, nxlk_0, nxlk_1, nxlv_0, nxlv_1, nxlo_0, nxlo_1, nxlu_0, nxlu_1, rlu_0, rlu_1, cla, clb, clqa, clqb, clka, clkb, clva, clvb, cloa, clob, clua, club])
    refine wz_intro (copyMatrix_new (F := (fun j => under (under (F 5) i) (j + 27))) (c := (c.layers.getD i default).down) (by omega)) ?_
    rintro _ gld ⟨lld, ysld, bbld, rfl, oold, blld⟩
    obtain ⟨blda, slda, bldb, sldb, rfl, rfl, olda, oldb⟩ := invMatrix oold
    have clda := OT.cell olda
    have cldb := OT.cell oldb
    have nld := lld.1
    try simp only [hn_push, hn_set] at nld blld
    have bllda := blld.split.1
    have blldb := blld.split.2.1
    have rld_0 := lld.2 (hn g .mk) (by first | omega | (simp only [hn_push, hn_set, hn_up]; omega) | (simp only [hn_push, hn_set, hn_up] at *; omega))
    have rld_1 := lld.2 (hn h' .mk) (by first | omega | (simp only [hn_push, hn_set, hn_up]; omega) | (simp only [hn_push, hn_set, hn_up] at *; omega))
    simp -dsimp -implicitDefEqProofs only [go_sem, rq1, rq2, rq3, rq4, rq5, rq6, rq7, hks, ei, ev, q1, q2, hoo, hv, w1, ne7, ne8, ne10, nxla_0, nxla_1, nxlb_0, nxlb_1, nxlq_0, nxlq_1, nxlk_0, nxlk_1, nxlv_0, nxlv_1, nxlo_0, nxlo_1, nxlu_0, nxlu_1, rlu_0, rlu_1] at rld_0 rld_1
    have Lld : h'.le gld := H2.le.trans (by repeat (first | exact Llu | exact H2.le.refl _ | apply le_push | refine le_set ?_ (by omega))) lld
    replace ola := OT.frame (g' := gld) ola fun q hq => by
      have hq1 := blla.2 q hq
      refine (show gld.get q = _ from lld.2 q (by first | omega | (simp only [hn_push, hn_set, hn_up]; omega) | (simp only [hn_push, hn_set, hn_up] at *; omega))).trans ?_
      first | rfl | (simp only [hg, H2.set, H2.push]; repeat (first | rfl | rw [if_neg (by first | omega | (unfold hn at *; omega))]))
    replace olb := OT.frame (g' := gld) olb fun q hq => by
      have hq1 := bllb.2 q hq
      refine (show gld.get q = _ from lld.2 q (by first | omega | (simp only [hn_push, hn_set, hn_up]; omega) | (simp only [hn_push, hn_set, hn_up] at *; omega))).trans ?_
      first | rfl | (simp only [hg, H2.set, H2.push]; repeat (first | rfl | rw [if_neg (by first | omega | (unfold hn at *; omega))]))
    replace olqa := OT.frame (g' := gld) olqa fun q hq => by
      have hq1 := bllqa.2 q hq
      refine (show gld.get q = _ from lld.2 q (by first | omega | (simp only [hn_push, hn_set, hn_up]; omega) | (simp only [hn_push, hn_set, hn_up] at *; omega))).trans ?_
      first | rfl | (simp only [hg, H2.set, H2.push]; repeat (first | rfl | rw [if_neg (by first | omega | (unfold hn at *; omega))]))
    replace olqb := OT.frame (g' := gld) olqb fun q hq => by
      have hq1 := bllqb.2 q hq
      refine (show gld.get q = _ from lld.2 q (by first | omega | (simp only [hn_push, hn_set, hn_up]; omega) | (simp only [hn_push, hn_set, hn_up] at *; omega))).trans ?_
      first | rfl | (simp only [hg, H2.set, H2.push]; repeat (first | rfl | rw [if_neg (by first | omega | (unfold hn at *; omega))]))
    replace olka := OT.frame (g' := gld) olka fun q hq => by
      have hq1 := bllka.2 q hq
      refine (show gld.get q = _ from lld.2 q (by first | omega | (simp only [hn_push, hn_set, hn_up]; omega) | (simp only [hn_push, hn_set, hn_up] at *; omega))).trans ?_
      first | rfl | (simp only [hg, H2.set, H2.push]; repeat (first | rfl | rw [if_neg (by first | omega | (unfold hn at *; omega))]))
    replace olkb := OT.frame (g' := gld) olkb fun q hq => by
      have hq1 := bllkb.2 q hq
      refine (show gld.get q = _ from lld.2 q (by first | omega | (simp only [hn_push, hn_set, hn_up]; omega) | (simp only [hn_push, hn_set, hn_up] at *; omega))).trans ?_
      first | rfl | (simp only [hg, H2.set, H2.push]; repeat (first | rfl | rw [if_neg (by first | omega | (unfold hn at *; omega))]))
    replace olva := OT.frame (g' := gld) olva fun q hq => by
      have hq1 := bllva.2 q hq
      refine (show gld.get q = _ from lld.2 q (by first | omega | (simp only [hn_push, hn_set, hn_up]; omega) | (simp only [hn_push, hn_set, hn_up] at *; omega))).trans ?_
      first | rfl | (simp only [hg, H2.set, H2.push]; repeat (first | rfl | rw [if_neg (by first | omega | (unfold hn at *; omega))]))
    replace olvb := OT.frame (g' := gld) olvb fun q hq => by
      have hq1 := bllvb.2 q hq
      refine (show gld.get q = _ from lld.2 q (by first | omega | (simp only [hn_push, hn_set, hn_up]; omega) | (simp only [hn_push, hn_set, hn_up] at *; omega))).trans ?_
      first | rfl | (simp only [hg, H2.set, H2.push]; repeat (first | rfl | rw [if_neg (by first | omega | (unfold hn at *; omega))]))
    replace oloa := OT.frame (g' := gld) oloa fun q hq => by
      have hq1 := blloa.2 q hq
      refine (show gld.get q = _ from lld.2 q (by first | omega | (simp only [hn_push, hn_set, hn_up]; omega) | (simp only [hn_push, hn_set, hn_up] at *; omega))).trans ?_
      first | rfl | (simp only [hg, H2.set, H2.push]; repeat (first | rfl | rw [if_neg (by first | omega | (unfold hn at *; omega))]))
    replace olob := OT.frame (g' := gld) olob fun q hq => by
      have hq1 := bllob.2 q hq
      refine (show gld.get q = _ from lld.2 q (by first | omega | (simp only [hn_push, hn_set, hn_up]; omega) | (simp only [hn_push, hn_set, hn_up] at *; omega))).trans ?_
      first | rfl | (simp only [hg, H2.set, H2.push]; repeat (first | rfl | rw [if_neg (by first | omega | (unfold hn at *; omega))]))
    replace olua := OT.frame (g' := gld) olua fun q hq => by
      have hq1 := bllua.2 q hq
      refine (show gld.get q = _ from lld.2 q (by first | omega | (simp only [hn_push, hn_set, hn_up]; omega) | (simp only [hn_push, hn_set, hn_up] at *; omega))).trans ?_
      first | rfl | (simp only [hg, H2.set, H2.push]; repeat (first | rfl | rw [if_neg (by first | omega | (unfold hn at *; omega))]))
    replace olub := OT.frame (g' := gld) olub fun q hq => by
      have hq1 := bllub.2 q hq
      refine (show gld.get q = _ from lld.2 q (by first | omega | (simp only [hn_push, hn_set, hn_up]; omega) | (simp only [hn_push, hn_set, hn_up] at *; omega))).trans ?_
      first | rfl | (simp only [hg, H2.set, H2.push]; repeat (first | rfl | rw [if_neg (by first | omega | (unfold hn at *; omega))]))
    have nxld_0 : ((hn g .mk) == hn gld .mk) = false := by simp; omega
    have nxld_1 : ((hn h' .mk) == hn gld .mk) = false := by simp; omega
    repeat (first | rw [kz_o] | rw [kz_r0] | simp -dsimp -implicitDefEqProofs only [go_sem, rq1, rq2, rq3, rq4, rq5, rq6, rq7, hks, ei, ev, q1, q2, hoo, hv, w1, ne7, ne8, ne10, nxla_0, nxla_1, nxlb_0, nxlb_1, nxlq_0, nxlq_1, nxlk_0, nxlk_1, nxlv_0, nxlv_1, nxlo_0, nxlo_1, nxlu_0, nxlu_1, nxld_0, nxld_1, rld_0, rld_1, cla, clb, clqa, clqb, clka, clkb, clva, clvb, cloa, clob, clua, club, clda, cldb])
    refine lit_intro rfl ?_
    intro w9 g9 hs9 l9
    have n9 := l9.1
    try simp only [hn_push, hn_set] at n9
    have r9_0 := l9.2 (hn g .mk) (by first | omega | (simp only [hn_push, hn_set, hn_up]; omega) | (simp only [hn_push, hn_set, hn_up] at *; omega))
    have r9_1 := l9.2 (hn h' .mk) (by first | omega | (simp only [hn_push, hn_set, hn_up]; omega) | (simp only [hn_push, hn_set, hn_up] at *; omega))
    simp -dsimp -implicitDefEqProofs only [go_sem, rq1, rq2, rq3, rq4, rq5, rq6, rq7, hks, ei, ev, q1, q2, hoo, hv, w1, ne7, ne8, ne10, nxla_0, nxla_1, nxlb_0, nxlb_1, nxlq_0, nxlq_1, nxlk_0, nxlk_1, nxlv_0, nxlv_1, nxlo_0, nxlo_1, nxlu_0, nxlu_1, nxld_0, nxld_1, rld_0, rld_1] at r9_0 r9_1
    have L9 : h'.le g9 := H2.le.trans (by repeat (first | exact Lld | refine le_set ?_ (by omega))) l9
    first | (rw [kz_r]; refine ⟨by simp -dsimp -implicitDefEqProofs only [go_sem, rq1, rq2, rq3, rq4, rq5, rq6, rq7, hks, ei, ev, q1, q2, hoo, hv, w1, ne7, ne8, ne10, nxla_0, nxla_1, nxlb_0, nxlb_1, nxlq_0, nxlq_1, nxlk_0, nxlk_1, nxlv_0, nxlv_1, nxlo_0, nxlo_1, nxlu_0, nxlu_1, nxld_0, nxld_1, r9_0, r9_1, cla, clb, clqa, clqb, clka, clkb, clva, clvb, cloa, clob, clua, club, clda, cldb], ?_⟩) | skip
    repeat (first | rw [kz_o] | rw [kz_r0] | simp -dsimp -implicitDefEqProofs only [go_sem, rq1, rq2, rq3, rq4, rq5, rq6, rq7, hks, ei, ev, q1, q2, hoo, hv, w1, ne7, ne8, ne10, nxla_0, nxla_1, nxlb_0, nxlb_1, nxlq_0, nxlq_1, nxlk_0, nxlk_1, nxlv_0, nxlv_1, nxlo_0, nxlo_1, nxlu_0, nxlu_1, nxld_0, nxld_1, r9_0, r9_1, cla, clb, clqa, clqb, clka, clkb, clva, clvb, cloa, clob, clua, club, clda, cldb])
    replace ola := OT.frame (g' := g9) ola fun q hq => by
      have hq1 := blla.2 q hq
      refine (show g9.get q = _ from l9.2 q (by first | omega | (simp only [hn_push, hn_set, hn_up]; omega) | (simp only [hn_push, hn_set, hn_up] at *; omega))).trans ?_
      first | rfl | (simp only [hg, H2.set, H2.push]; repeat (first | rfl | rw [if_neg (by first | omega | (unfold hn at *; omega))]))
    replace olb := OT.frame (g' := g9) olb fun q hq => by
      have hq1 := bllb.2 q hq
      refine (show g9.get q = _ from l9.2 q (by first | omega | (simp only [hn_push, hn_set, hn_up]; omega) | (simp only [hn_push, hn_set, hn_up] at *; omega))).trans ?_
      first | rfl | (simp only [hg, H2.set, H2.push]; repeat (first | rfl | rw [if_neg (by first | omega | (unfold hn at *; omega))]))
    replace olqa := OT.frame (g' := g9) olqa fun q hq => by
      have hq1 := bllqa.2 q hq
      refine (show g9.get q = _ from l9.2 q (by first | omega | (simp only [hn_push, hn_set, hn_up]; omega) | (simp only [hn_push, hn_set, hn_up] at *; omega))).trans ?_
      first | rfl | (simp only [hg, H2.set, H2.push]; repeat (first | rfl | rw [if_neg (by first | omega | (unfold hn at *; omega))]))
    replace olqb := OT.frame (g' := g9) olqb fun q hq => by
      have hq1 := bllqb.2 q hq
      refine (show g9.get q = _ from l9.2 q (by first | omega | (simp only [hn_push, hn_set, hn_up]; omega) | (simp only [hn_push, hn_set, hn_up] at *; omega))).trans ?_
      first | rfl | (simp only [hg, H2.set, H2.push]; repeat (first | rfl | rw [if_neg (by first | omega | (unfold hn at *; omega))]))
    replace olka := OT.frame (g' := g9) olka fun q hq => by
      have hq1 := bllka.2 q hq
      refine (show g9.get q = _ from l9.2 q (by first | omega | (simp only [hn_push, hn_set, hn_up]; omega) | (simp only [hn_push, hn_set, hn_up] at *; omega))).trans ?_
      first | rfl | (simp only [hg, H2.set, H2.push]; repeat (first | rfl | rw [if_neg (by first | omega | (unfold hn at *; omega))]))
    replace olkb := OT.frame (g' := g9) olkb fun q hq => by
      have hq1 := bllkb.2 q hq
      refine (show g9.get q = _ from l9.2 q (by first | omega | (simp only [hn_push, hn_set, hn_up]; omega) | (simp only [hn_push, hn_set, hn_up] at *; omega))).trans ?_
      first | rfl | (simp only [hg, H2.set, H2.push]; repeat (first | rfl | rw [if_neg (by first | omega | (unfold hn at *; omega))]))
    replace olva := OT.frame (g' := g9) olva fun q hq => by
      have hq1 := bllva.2 q hq
      refine (show g9.get q = _ from l9.2 q (by first | omega | (simp only [hn_push, hn_set, hn_up]; omega) | (simp only [hn_push, hn_set, hn_up] at *; omega))).trans ?_
      first | rfl | (simp only [hg, H2.set, H2.push]; repeat (first | rfl | rw [if_neg (by first | omega | (unfold hn at *; omega))]))
    replace olvb := OT.frame (g' := g9) olvb fun q hq => by
      have hq1 := bllvb.2 q hq
      refine (show g9.get q = _ from l9.2 q (by first | omega | (simp only [hn_push, hn_set, hn_up]; omega) | (simp only [hn_push, hn_set, hn_up] at *; omega))).trans ?_
      first | rfl | (simp only [hg, H2.set, H2.push]; repeat (first | rfl | rw [if_neg (by first | omega | (unfold hn at *; omega))]))
    replace oloa := OT.frame (g' := g9) oloa fun q hq => by
      have hq1 := blloa.2 q hq
      refine (show g9.get q = _ from l9.2 q (by first | omega | (simp only [hn_push, hn_set, hn_up]; omega) | (simp only [hn_push, hn_set, hn_up] at *; omega))).trans ?_
      first | rfl | (simp only [hg, H2.set, H2.push]; repeat (first | rfl | rw [if_neg (by first | omega | (unfold hn at *; omega))]))
    replace olob := OT.frame (g' := g9) olob fun q hq => by
      have hq1 := bllob.2 q hq
      refine (show g9.get q = _ from l9.2 q (by first | omega | (simp only [hn_push, hn_set, hn_up]; omega) | (simp only [hn_push, hn_set, hn_up] at *; omega))).trans ?_
      first | rfl | (simp only [hg, H2.set, H2.push]; repeat (first | rfl | rw [if_neg (by first | omega | (unfold hn at *; omega))]))
    replace olua := OT.frame (g' := g9) olua fun q hq => by
      have hq1 := bllua.2 q hq
      refine (show g9.get q = _ from l9.2 q (by first | omega | (simp only [hn_push, hn_set, hn_up]; omega) | (simp only [hn_push, hn_set, hn_up] at *; omega))).trans ?_
      first | rfl | (simp only [hg, H2.set, H2.push]; repeat (first | rfl | rw [if_neg (by first | omega | (unfold hn at *; omega))]))
    replace olub := OT.frame (g' := g9) olub fun q hq => by
      have hq1 := bllub.2 q hq
      refine (show g9.get q = _ from l9.2 q (by first | omega | (simp only [hn_push, hn_set, hn_up]; omega) | (simp only [hn_push, hn_set, hn_up] at *; omega))).trans ?_
      first | rfl | (simp only [hg, H2.set, H2.push]; repeat (first | rfl | rw [if_neg (by first | omega | (unfold hn at *; omega))]))
    replace olda := OT.frame (g' := g9) olda fun q hq => by
      have hq1 := bllda.2 q hq
      refine (show g9.get q = _ from l9.2 q (by first | omega | (simp only [hn_push, hn_set, hn_up]; omega) | (simp only [hn_push, hn_set, hn_up] at *; omega))).trans ?_
      first | rfl | (simp only [hg, H2.set, H2.push]; repeat (first | rfl | rw [if_neg (by first | omega | (unfold hn at *; omega))]))
    replace oldb := OT.frame (g' := g9) oldb fun q hq => by
      have hq1 := blldb.2 q hq
      refine (show g9.get q = _ from l9.2 q (by first | omega | (simp only [hn_push, hn_set, hn_up]; omega) | (simp only [hn_push, hn_set, hn_up] at *; omega))).trans ?_
      first | rfl | (simp only [hg, H2.set, H2.push]; repeat (first | rfl | rw [if_neg (by first | omega | (unfold hn at *; omega))]))
    have oL := outLayer (c := c.layers.getD i default) ola olqa olqb olka olkb olva olvb oloa olob olb olua olub olda oldb
    have bA := (blla.append (bllb.append (bllq.append (bllk.append (bllv.append (bllo.append (bllu.append blld (by omega) (by omega)) (by omega) (by omega)) (by omega) (by omega)) (by omega) (by omega)) (by omega) (by omega)) (by omega) (by omega)) (by omega) (by omega))
    simp only [List.append_assoc] at bA
    replace bA := Bl.perm bA (List.Perm.append_left bla (by have p1 := List.perm_append_comm_assoc blb (blqa ++ (blqb ++ (blka ++ (blkb ++ (blva ++ (blvb ++ (bloa ++ blob))))))) (blua ++ (blub ++ (blda ++ bldb))); simpa only [List.append_assoc] using p1))
    have hvl := gr.lt
    have hLy : sumN szLayer c.layers ≤ 1048576 := by omega
    refine append_gr (P := Tryz.prog) (D := fun _ => none) (N := hn ge .mk) (us := eLayer (c.layers.getD i default)) Go.Ai.ty_el26 Go.Ai.ty_zr155 rfl Go.Ai.ty_cl26 (gr.keep L9) hs9 oL rfl (by omega) (fun b hb => by have := bA.2 b hb; omega) bA.1 (fun b hb hb' => by have := gr.bl b hb; have := bA.2 b hb'; omega) (fun b e hb' => by have := hvl b e; have := bA.2 b hb'; omega) (by have : Go.Ai.most = 1099511627776 := rfl; omega) ?_
    intro v' g10 gr10 n10 le10 fr10
    have rb := (fr10 (hn g .mk) (by omega) (fun e => by have := hvl _ e; omega)).trans r9_0
    have hv' := Gr.cell gr10
    first | (rw [kz_r]; refine ⟨by simp -dsimp -implicitDefEqProofs only [go_sem, rq1, rq2, rq3, rq4, rq5, rq6, rq7, hks, ei, ev, q1, q2, hoo, hv, w1, ne7, ne8, ne10, nxla_0, nxla_1, nxlb_0, nxlb_1, nxlq_0, nxlq_1, nxlk_0, nxlk_1, nxlv_0, nxlv_1, nxlo_0, nxlo_1, nxlu_0, nxlu_1, nxld_0, nxld_1, rb, hv'], ?_⟩) | skip
    repeat (first | rw [kz_o] | rw [kz_r0] | simp -dsimp -implicitDefEqProofs only [go_sem, rq1, rq2, rq3, rq4, rq5, rq6, rq7, hks, ei, ev, q1, q2, hoo, hv, w1, ne7, ne8, ne10, nxla_0, nxla_1, nxlb_0, nxlb_1, nxlq_0, nxlq_1, nxlk_0, nxlk_1, nxlv_0, nxlv_1, nxlo_0, nxlo_1, nxlu_0, nxlu_1, nxld_0, nxld_1, rb, hv'])
    refine nx_keep (m - 1) (by omega) (by simp -dsimp -implicitDefEqProofs only [go_sem, rq1, rq2, rq3, rq4, rq5, rq6, rq7, hks]) ⟨i + 1, v', bs ++ (bla ++ (blqa ++ (blqb ++ (blka ++ (blkb ++ (blva ++ (blvb ++ (bloa ++ (blob ++ (blb ++ (blua ++ (blub ++ (blda ++ bldb))))))))))))), by simp -dsimp -implicitDefEqProofs only [go_sem, rq1, rq2, rq3, rq4, rq5, rq6, rq7, w1], by simp -dsimp -implicitDefEqProofs only [go_sem, rq1, rq2, rq3, rq4, rq5, rq6, rq7], by omega, by omega, fun b h1 h2 => ((fr10 b (by omega) (fun e => by have := hvl _ e; omega)).trans (L9.2 b (by omega))).trans (fr b h1 h2), rb, ?_⟩
    rw [flat_next q2]
    exact gr10
  have r2 := (fr (hn g .mk + 1) (by omega) (by omega)).trans re_1
  have hi : i = c.layers.length := by omega
  rw [hi, List.take_length] at gr
  obtain ⟨b5, o5, bl5⟩ := Gr.tree (es := rLayerS c.layers) gr (by rw [rLayerS_len]) (fun e he => by obtain ⟨x, _, rfl⟩ := List.mem_map.1 he; rfl)
  have L5 : g.le h' := ⟨by have := Le.1; omega, fun b hb => (fr b (by have := Le.1; omega) (by omega)).trans (Le.2 b hb)⟩
  replace om := om.frame (g' := h') fun q hq => by have := blm.2 q hq; exact fr q (by omega) (by omega)
  replace oe := oe.frame (g' := h') fun q hq => by have := ble.2 q hq; exact fr q (by omega) (by omega)
  have n5 := L5.1
  have ne11 : (hn g .mk == hn h' .mk) = false := by simp; omega
  have ne12 : (hn g .mk + 1 == hn h' .mk) = false := by simp; omega
  repeat (first | rw [kz_o] | rw [kz_r0] | simp -dsimp -implicitDefEqProofs only [go_sem, rq1, rq2, rq3, rq4, rq5, rq6, rq7, hks, ei, ev, q1, hoo, ne1, ne2, ne3, ne4, nxm_0, nxm_1, nxe_0, nxe_1, ne11, ne12, r1, r2, hv, cm, ce])
  refine app_ints (by omega) ?_
  intro sg gg bg lg og blg
  have cg := OT.cell og
  have ng := lg.1
  try simp only [hn_push, hn_set] at ng blg
  have rg_0 := lg.2 (hn g .mk) (by first | omega | (simp only [hn_push, hn_set, hn_up]; omega) | (simp only [hn_push, hn_set, hn_up] at *; omega))
  have rg_1 := lg.2 (hn g .mk + 1) (by first | omega | (simp only [hn_push, hn_set, hn_up]; omega) | (simp only [hn_push, hn_set, hn_up] at *; omega))
  simp -dsimp -implicitDefEqProofs only [go_sem, rq1, rq2, rq3, rq4, rq5, rq6, rq7, hks, ei, ev, q1, hoo, ne1, ne2, ne3, ne4, nxm_0, nxm_1, nxe_0, nxe_1, ne11, ne12, r1, r2] at rg_0 rg_1
  have Lg : g.le gg := H2.le.trans (by repeat (first | exact L5 | exact H2.le.refl _ | apply le_push | refine le_set ?_ (by omega))) lg
  replace om := OT.frame (g' := gg) om fun q hq => by
    have hq1 := blm.2 q hq
    refine (show gg.get q = _ from lg.2 q (by first | omega | (simp only [hn_push, hn_set, hn_up]; omega) | (simp only [hn_push, hn_set, hn_up] at *; omega))).trans ?_
    first | rfl | (simp only [hg, H2.set, H2.push]; repeat (first | rfl | rw [if_neg (by first | omega | (unfold hn at *; omega))]))
  replace oe := OT.frame (g' := gg) oe fun q hq => by
    have hq1 := ble.2 q hq
    refine (show gg.get q = _ from lg.2 q (by first | omega | (simp only [hn_push, hn_set, hn_up]; omega) | (simp only [hn_push, hn_set, hn_up] at *; omega))).trans ?_
    first | rfl | (simp only [hg, H2.set, H2.push]; repeat (first | rfl | rw [if_neg (by first | omega | (unfold hn at *; omega))]))
  replace o5 := OT.frame (g' := gg) o5 fun q hq => by
    have hq1 := bl5.2 q hq
    refine (show gg.get q = _ from lg.2 q (by first | omega | (simp only [hn_push, hn_set, hn_up]; omega) | (simp only [hn_push, hn_set, hn_up] at *; omega))).trans ?_
    first | rfl | (simp only [hg, H2.set, H2.push]; repeat (first | rfl | rw [if_neg (by first | omega | (unfold hn at *; omega))]))
  have nxg_0 : ((hn g .mk) == hn gg .mk) = false := by simp; omega
  have nxg_1 : ((hn g .mk + 1) == hn gg .mk) = false := by simp; omega
  repeat (first | rw [kz_o] | rw [kz_r0] | simp -dsimp -implicitDefEqProofs only [go_sem, rq1, rq2, rq3, rq4, rq5, rq6, rq7, hks, ei, ev, q1, hoo, ne1, ne2, ne3, ne4, nxm_0, nxm_1, nxe_0, nxe_1, ne11, ne12, nxg_0, nxg_1, rg_0, rg_1, hv, cm, ce, cg])
  refine wz_intro (copyMatrix_new (F := fun j => F (j + 7)) (c := c.head) (by omega)) ?_
  rintro _ gh ⟨lh, ysh, bbh, rfl, ooh, blh⟩
  obtain ⟨bha, sha, bhb, shb, rfl, rfl, oha, ohb⟩ := invMatrix ooh
  have cha := OT.cell oha
  have chb := OT.cell ohb
  have nh := lh.1
  try simp only [hn_push, hn_set] at nh blh
  have blha := blh.split.1
  have blhb := blh.split.2.1
  have rh_0 := lh.2 (hn g .mk) (by first | omega | (simp only [hn_push, hn_set, hn_up]; omega) | (simp only [hn_push, hn_set, hn_up] at *; omega))
  have rh_1 := lh.2 (hn g .mk + 1) (by first | omega | (simp only [hn_push, hn_set, hn_up]; omega) | (simp only [hn_push, hn_set, hn_up] at *; omega))
  simp -dsimp -implicitDefEqProofs only [go_sem, rq1, rq2, rq3, rq4, rq5, rq6, rq7, hks, ei, ev, q1, hoo, ne1, ne2, ne3, ne4, nxm_0, nxm_1, nxe_0, nxe_1, ne11, ne12, nxg_0, nxg_1, rg_0, rg_1] at rh_0 rh_1
  have Lh : g.le gh := H2.le.trans (by repeat (first | exact Lg | exact H2.le.refl _ | apply le_push | refine le_set ?_ (by omega))) lh
  replace om := OT.frame (g' := gh) om fun q hq => by
    have hq1 := blm.2 q hq
    refine (show gh.get q = _ from lh.2 q (by first | omega | (simp only [hn_push, hn_set, hn_up]; omega) | (simp only [hn_push, hn_set, hn_up] at *; omega))).trans ?_
    first | rfl | (simp only [hg, H2.set, H2.push]; repeat (first | rfl | rw [if_neg (by first | omega | (unfold hn at *; omega))]))
  replace oe := OT.frame (g' := gh) oe fun q hq => by
    have hq1 := ble.2 q hq
    refine (show gh.get q = _ from lh.2 q (by first | omega | (simp only [hn_push, hn_set, hn_up]; omega) | (simp only [hn_push, hn_set, hn_up] at *; omega))).trans ?_
    first | rfl | (simp only [hg, H2.set, H2.push]; repeat (first | rfl | rw [if_neg (by first | omega | (unfold hn at *; omega))]))
  replace o5 := OT.frame (g' := gh) o5 fun q hq => by
    have hq1 := bl5.2 q hq
    refine (show gh.get q = _ from lh.2 q (by first | omega | (simp only [hn_push, hn_set, hn_up]; omega) | (simp only [hn_push, hn_set, hn_up] at *; omega))).trans ?_
    first | rfl | (simp only [hg, H2.set, H2.push]; repeat (first | rfl | rw [if_neg (by first | omega | (unfold hn at *; omega))]))
  replace og := OT.frame (g' := gh) og fun q hq => by
    have hq1 := blg.2 q hq
    refine (show gh.get q = _ from lh.2 q (by first | omega | (simp only [hn_push, hn_set, hn_up]; omega) | (simp only [hn_push, hn_set, hn_up] at *; omega))).trans ?_
    first | rfl | (simp only [hg, H2.set, H2.push]; repeat (first | rfl | rw [if_neg (by first | omega | (unfold hn at *; omega))]))
  have nxh_0 : ((hn g .mk) == hn gh .mk) = false := by simp; omega
  have nxh_1 : ((hn g .mk + 1) == hn gh .mk) = false := by simp; omega
  repeat (first | rw [kz_o] | rw [kz_r0] | simp -dsimp -implicitDefEqProofs only [go_sem, rq1, rq2, rq3, rq4, rq5, rq6, rq7, hks, ei, ev, q1, hoo, ne1, ne2, ne3, ne4, nxm_0, nxm_1, nxe_0, nxe_1, ne11, ne12, nxg_0, nxg_1, nxh_0, nxh_1, rh_0, rh_1, hv, cm, ce, cg, cha, chb])
  refine dq_intro [(0, []), (1, []), (2, []), (4, []), (5, []), (6, []), (3, [6]), (7, []), (8, []), (9, []), (10, [])] (by kernel_rfl) ?_
  repeat (first | rw [kz_o] | rw [kz_r0] | simp -dsimp -implicitDefEqProofs only [go_sem, rq1, rq2, rq3, rq4, rq5, rq6, rq7, hks, ei, ev, q1, hoo, ne1, ne2, ne3, ne4, nxm_0, nxm_1, nxe_0, nxe_1, ne11, ne12, nxg_0, nxg_1, nxh_0, nxh_1, rh_0, rh_1, hv, cm, ce, cg, cha, chb])
  refine wz_intro (copyLists_new (by omega)) ?_
  rintro sx gx ⟨lx, bx, ox, blx⟩
  have cx := OT.cell ox
  have nx := lx.1
  try simp only [hn_push, hn_set] at nx blx
  have rx_0 := lx.2 (hn g .mk) (by first | omega | (simp only [hn_push, hn_set, hn_up]; omega) | (simp only [hn_push, hn_set, hn_up] at *; omega))
  have rx_1 := lx.2 (hn g .mk + 1) (by first | omega | (simp only [hn_push, hn_set, hn_up]; omega) | (simp only [hn_push, hn_set, hn_up] at *; omega))
  simp -dsimp -implicitDefEqProofs only [go_sem, rq1, rq2, rq3, rq4, rq5, rq6, rq7, hks, ei, ev, q1, hoo, ne1, ne2, ne3, ne4, nxm_0, nxm_1, nxe_0, nxe_1, ne11, ne12, nxg_0, nxg_1, nxh_0, nxh_1, rh_0, rh_1] at rx_0 rx_1
  have Lx : g.le gx := H2.le.trans (by repeat (first | exact Lh | exact H2.le.refl _ | apply le_push | refine le_set ?_ (by omega))) lx
  replace om := OT.frame (g' := gx) om fun q hq => by
    have hq1 := blm.2 q hq
    refine (show gx.get q = _ from lx.2 q (by first | omega | (simp only [hn_push, hn_set, hn_up]; omega) | (simp only [hn_push, hn_set, hn_up] at *; omega))).trans ?_
    first | rfl | (simp only [hg, H2.set, H2.push]; repeat (first | rfl | rw [if_neg (by first | omega | (unfold hn at *; omega))]))
  replace oe := OT.frame (g' := gx) oe fun q hq => by
    have hq1 := ble.2 q hq
    refine (show gx.get q = _ from lx.2 q (by first | omega | (simp only [hn_push, hn_set, hn_up]; omega) | (simp only [hn_push, hn_set, hn_up] at *; omega))).trans ?_
    first | rfl | (simp only [hg, H2.set, H2.push]; repeat (first | rfl | rw [if_neg (by first | omega | (unfold hn at *; omega))]))
  replace o5 := OT.frame (g' := gx) o5 fun q hq => by
    have hq1 := bl5.2 q hq
    refine (show gx.get q = _ from lx.2 q (by first | omega | (simp only [hn_push, hn_set, hn_up]; omega) | (simp only [hn_push, hn_set, hn_up] at *; omega))).trans ?_
    first | rfl | (simp only [hg, H2.set, H2.push]; repeat (first | rfl | rw [if_neg (by first | omega | (unfold hn at *; omega))]))
  replace og := OT.frame (g' := gx) og fun q hq => by
    have hq1 := blg.2 q hq
    refine (show gx.get q = _ from lx.2 q (by first | omega | (simp only [hn_push, hn_set, hn_up]; omega) | (simp only [hn_push, hn_set, hn_up] at *; omega))).trans ?_
    first | rfl | (simp only [hg, H2.set, H2.push]; repeat (first | rfl | rw [if_neg (by first | omega | (unfold hn at *; omega))]))
  replace oha := OT.frame (g' := gx) oha fun q hq => by
    have hq1 := blha.2 q hq
    refine (show gx.get q = _ from lx.2 q (by first | omega | (simp only [hn_push, hn_set, hn_up]; omega) | (simp only [hn_push, hn_set, hn_up] at *; omega))).trans ?_
    first | rfl | (simp only [hg, H2.set, H2.push]; repeat (first | rfl | rw [if_neg (by first | omega | (unfold hn at *; omega))]))
  replace ohb := OT.frame (g' := gx) ohb fun q hq => by
    have hq1 := blhb.2 q hq
    refine (show gx.get q = _ from lx.2 q (by first | omega | (simp only [hn_push, hn_set, hn_up]; omega) | (simp only [hn_push, hn_set, hn_up] at *; omega))).trans ?_
    first | rfl | (simp only [hg, H2.set, H2.push]; repeat (first | rfl | rw [if_neg (by first | omega | (unfold hn at *; omega))]))
  have nxx_0 : ((hn g .mk) == hn gx .mk) = false := by simp; omega
  have nxx_1 : ((hn g .mk + 1) == hn gx .mk) = false := by simp; omega
  first | (rw [kz_r]; refine ⟨by simp -dsimp -implicitDefEqProofs only [go_sem, rq1, rq2, rq3, rq4, rq5, rq6, rq7, hks, ei, ev, q1, hoo, ne1, ne2, ne3, ne4, nxm_0, nxm_1, nxe_0, nxe_1, ne11, ne12, nxg_0, nxg_1, nxh_0, nxh_1, nxx_0, nxx_1, rx_0, rx_1, hv, cm, ce, cg, cha, chb, cx], ?_⟩) | skip
  repeat (first | rw [kz_o] | rw [kz_r0] | simp -dsimp -implicitDefEqProofs only [go_sem, rq1, rq2, rq3, rq4, rq5, rq6, rq7, hks, ei, ev, q1, hoo, ne1, ne2, ne3, ne4, nxm_0, nxm_1, nxe_0, nxe_1, ne11, ne12, nxg_0, nxg_1, nxh_0, nxh_1, nxx_0, nxx_1, rx_0, rx_1, hv, cm, ce, cg, cha, chb, cx])
  refine wz_intro (copyLists_new (by omega)) ?_
  rintro sw gw ⟨lw, bw, ow, blw⟩
  have cw := OT.cell ow
  have nw := lw.1
  try simp only [hn_push, hn_set] at nw blw
  have rw_0 := lw.2 (hn g .mk) (by first | omega | (simp only [hn_push, hn_set, hn_up]; omega) | (simp only [hn_push, hn_set, hn_up] at *; omega))
  have rw_1 := lw.2 (hn g .mk + 1) (by first | omega | (simp only [hn_push, hn_set, hn_up]; omega) | (simp only [hn_push, hn_set, hn_up] at *; omega))
  simp -dsimp -implicitDefEqProofs only [go_sem, rq1, rq2, rq3, rq4, rq5, rq6, rq7, hks, ei, ev, q1, hoo, ne1, ne2, ne3, ne4, nxm_0, nxm_1, nxe_0, nxe_1, ne11, ne12, nxg_0, nxg_1, nxh_0, nxh_1, nxx_0, nxx_1, rx_0, rx_1] at rw_0 rw_1
  have Lw : g.le gw := H2.le.trans (by repeat (first | exact Lx | exact H2.le.refl _ | apply le_push | refine le_set ?_ (by omega))) lw
  replace om := OT.frame (g' := gw) om fun q hq => by
    have hq1 := blm.2 q hq
    refine (show gw.get q = _ from lw.2 q (by first | omega | (simp only [hn_push, hn_set, hn_up]; omega) | (simp only [hn_push, hn_set, hn_up] at *; omega))).trans ?_
    first | rfl | (simp only [hg, H2.set, H2.push]; repeat (first | rfl | rw [if_neg (by first | omega | (unfold hn at *; omega))]))
  replace oe := OT.frame (g' := gw) oe fun q hq => by
    have hq1 := ble.2 q hq
    refine (show gw.get q = _ from lw.2 q (by first | omega | (simp only [hn_push, hn_set, hn_up]; omega) | (simp only [hn_push, hn_set, hn_up] at *; omega))).trans ?_
    first | rfl | (simp only [hg, H2.set, H2.push]; repeat (first | rfl | rw [if_neg (by first | omega | (unfold hn at *; omega))]))
  replace o5 := OT.frame (g' := gw) o5 fun q hq => by
    have hq1 := bl5.2 q hq
    refine (show gw.get q = _ from lw.2 q (by first | omega | (simp only [hn_push, hn_set, hn_up]; omega) | (simp only [hn_push, hn_set, hn_up] at *; omega))).trans ?_
    first | rfl | (simp only [hg, H2.set, H2.push]; repeat (first | rfl | rw [if_neg (by first | omega | (unfold hn at *; omega))]))
  replace og := OT.frame (g' := gw) og fun q hq => by
    have hq1 := blg.2 q hq
    refine (show gw.get q = _ from lw.2 q (by first | omega | (simp only [hn_push, hn_set, hn_up]; omega) | (simp only [hn_push, hn_set, hn_up] at *; omega))).trans ?_
    first | rfl | (simp only [hg, H2.set, H2.push]; repeat (first | rfl | rw [if_neg (by first | omega | (unfold hn at *; omega))]))
  replace oha := OT.frame (g' := gw) oha fun q hq => by
    have hq1 := blha.2 q hq
    refine (show gw.get q = _ from lw.2 q (by first | omega | (simp only [hn_push, hn_set, hn_up]; omega) | (simp only [hn_push, hn_set, hn_up] at *; omega))).trans ?_
    first | rfl | (simp only [hg, H2.set, H2.push]; repeat (first | rfl | rw [if_neg (by first | omega | (unfold hn at *; omega))]))
  replace ohb := OT.frame (g' := gw) ohb fun q hq => by
    have hq1 := blhb.2 q hq
    refine (show gw.get q = _ from lw.2 q (by first | omega | (simp only [hn_push, hn_set, hn_up]; omega) | (simp only [hn_push, hn_set, hn_up] at *; omega))).trans ?_
    first | rfl | (simp only [hg, H2.set, H2.push]; repeat (first | rfl | rw [if_neg (by first | omega | (unfold hn at *; omega))]))
  replace ox := OT.frame (g' := gw) ox fun q hq => by
    have hq1 := blx.2 q hq
    refine (show gw.get q = _ from lw.2 q (by first | omega | (simp only [hn_push, hn_set, hn_up]; omega) | (simp only [hn_push, hn_set, hn_up] at *; omega))).trans ?_
    first | rfl | (simp only [hg, H2.set, H2.push]; repeat (first | rfl | rw [if_neg (by first | omega | (unfold hn at *; omega))]))
  have nxw_0 : ((hn g .mk) == hn gw .mk) = false := by simp; omega
  have nxw_1 : ((hn g .mk + 1) == hn gw .mk) = false := by simp; omega
  first | (rw [kz_r]; refine ⟨by simp -dsimp -implicitDefEqProofs only [go_sem, rq1, rq2, rq3, rq4, rq5, rq6, rq7, hks, ei, ev, q1, hoo, ne1, ne2, ne3, ne4, nxm_0, nxm_1, nxe_0, nxe_1, ne11, ne12, nxg_0, nxg_1, nxh_0, nxh_1, nxx_0, nxx_1, nxw_0, nxw_1, rw_0, rw_1, hv, cm, ce, cg, cha, chb, cx, cw], ?_⟩) | skip
  repeat (first | rw [kz_o] | rw [kz_r0] | simp -dsimp -implicitDefEqProofs only [go_sem, rq1, rq2, rq3, rq4, rq5, rq6, rq7, hks, ei, ev, q1, hoo, ne1, ne2, ne3, ne4, nxm_0, nxm_1, nxe_0, nxe_1, ne11, ne12, nxg_0, nxg_1, nxh_0, nxh_1, nxx_0, nxx_1, nxw_0, nxw_1, rw_0, rw_1, hv, cm, ce, cg, cha, chb, cx, cw])
  refine ⟨by repeat (first | exact Lw | refine le_set ?_ (by omega)), _, bm ++ (be ++ (b5 ++ (bg ++ (bha ++ (bhb ++ (bx ++ bw)))))), rfl, ?_, ?_⟩
  · exact outModel (c := c) (by repeat (first | exact om | refine OT.setN ?_ blm (by omega))) (by repeat (first | exact oe | refine OT.setN ?_ ble (by omega))) (by repeat (first | exact o5 | refine OT.setN ?_ bl5 (by omega))) (by repeat (first | exact og | refine OT.setN ?_ blg (by omega))) (by repeat (first | exact oha | refine OT.setN ?_ blha (by omega))) (by repeat (first | exact ohb | refine OT.setN ?_ blhb (by omega))) (by repeat (first | exact ox | refine OT.setN ?_ blx (by omega))) (by repeat (first | exact ow | refine OT.setN ?_ blw (by omega)))
  · simp only [hn_set]
    have hA := blm.append (ble.append (bl5.append (blg.append (blh.append (blx.append blw (by omega) (by omega)) (by omega) (by omega)) (by omega) (by omega)) (by omega) (by omega)) (by omega) (by omega)) (by omega) (by omega)
    simp only [List.append_assoc] at hA
    exact hA.wide (by omega) (Nat.le_refl _)
end Go.Bi
end
section
set_option linter.unusedSimpArgs false
set_option linter.unusedVariables false
set_option maxRecDepth 20000
namespace Go.Bi
open Go.Proofs
open Go.Ai (wrap_i64 wrap_u8 Heap)
variable {W0 : World} {P : Program}
theorem any_getD {α : Type} [Inhabited α] {ss : List α} {p : α → Bool} {k : Nat} (hk : k < ss.length) (h : p (ss.getD k default) = true) : ss.any p = true :=
  List.any_eq_true.2 ⟨_, List.getElem_mem hk, by rw [List.getD_eq_getElem?_getD, List.getElem?_eq_getElem hk] at h; exact h⟩
theorem any_none {α : Type} [Inhabited α] {ss : List α} {p : α → Bool} (h : ∀ j, j < ss.length → p (ss.getD j default) = false) : ss.any p = false := by
  rw [List.any_eq_false]
  intro x hx
  obtain ⟨j, hj, rfl⟩ := List.getElem_of_mem hx
  have := h j hj
  rw [List.getD_eq_getElem?_getD, List.getElem?_eq_getElem hj] at this
  simpa using this
theorem all_none {α : Type} [Inhabited α] {ss : List α} {p : α → Bool} {k : Nat} (hk : k < ss.length) (h : p (ss.getD k default) = false) : ss.all p = false := by
  rw [List.all_eq_not_any_not, any_getD hk (p := fun x => !p x) (by simp only [h]; rfl)]; rfl
theorem all_getD {α : Type} [Inhabited α] {ss : List α} {p : α → Bool} (h : ∀ j, j < ss.length → p (ss.getD j default) = true) : ss.all p = true := by
  rw [List.all_eq_not_any_not, any_none (p := fun x => !p x) (fun j hj => by simp only [h j hj]; rfl)]; rfl
theorem containsI_ok {F : FuncId} {p : Int → Bool} {caps : List Value} {f : Adr} {ss : List Int} {h : H2} (hn0 : ss.length ≤ 9223372036854775807)
    (hf : ∀ s, WC2 Tryz.prog W0 F ([.raw (.int .i64 s)] ++ caps.map .raw) h (fun v h' => v = .raw (.bool (p s)) ∧ h' = h)) :
    WC2 Tryz.prog W0 154 [.sl f 1 (ints ss), .raw (.func (.func F) #[] caps.toArray)] h (fun v h' => v = .raw (.bool (ss.any p)) ∧ h' = h) := by
  refine start (P := Tryz.prog) [[0, 1], [0, 1]] (by kernel_rfl) Tryz.func154 rfl (by decide) (by decide +kernel) (rs := [.tmp 4]) rfl rfl (Nat.le_of_ble_eq_true rfl) ?_
  intro wf
  repeat (first | rw [kz_o] | rw [kz_r0] | simp -dsimp -implicitDefEqProofs only [go_sem, rq1, rq2, rq3, rq4, rq5, rq6, rq7])
  refine wz_intro (indexI_ok hn0 hf) ?_
  rintro _ h' ⟨⟨k, rfl, hk⟩, rfl⟩
  repeat (first | rw [kz_o] | rw [kz_r0] | simp -dsimp -implicitDefEqProofs only [go_sem, rq1, rq2, rq3, rq4, rq5, rq6, rq7, hk])
  exact ⟨rfl, rfl⟩
theorem allIn1_ok {b1 b2 z1 z2 : Nat} {x y : Int} {h : H2} (h1 : hg h b1 .mk = some ⟨z1, [.raw (.int .i64 x)]⟩) (h2 : hg h b2 .mk = some ⟨z2, [.raw (.int .i64 y)]⟩) (s : Int) :
    WC2 Tryz.prog W0 155 ([.raw (.int .i64 s)] ++ [Value.pointer (some ⟨b1, 0, none⟩), .pointer (some ⟨b2, 0, none⟩)].map .raw) h (fun v h' => v = .raw (.bool (!inI s x y)) ∧ h' = h) := by
  simp only [List.cons_append, List.nil_append, List.map_cons, List.map_nil]
  refine start (P := Tryz.prog) [[0, 1, 2], [0, 1, 2]] (by kernel_rfl) Tryz.func155 rfl (by decide) (by decide +kernel) (rs := [.tmp 4]) rfl rfl (Nat.le_of_ble_eq_true rfl) ?_
  intro wf
  repeat (first | rw [kz_o] | rw [kz_r0] | simp -dsimp -implicitDefEqProofs only [go_sem, rq1, rq2, rq3, rq4, rq5, rq6, rq7, h1, h2])
  refine wz_intro in_ok ?_
  rintro _ h' ⟨rfl, rfl⟩
  repeat (first | rw [kz_o] | rw [kz_r0] | simp -dsimp -implicitDefEqProofs only [go_sem, rq1, rq2, rq3, rq4, rq5, rq6, rq7])
  exact ⟨rfl, rfl⟩
def allI (zs : List Int) (x y : Int) : Bool := zs.all fun s => inI s x y
theorem allIn_ok {f : Adr} {zs : List Int} {x y : Int} {h : H2} (hn0 : zs.length ≤ 9223372036854775807) :
    PW Tryz.prog W0 59 [.sl f 1 (ints zs), .raw (.int .i64 x), .raw (.int .i64 y)] h (fun r => r = .raw (.bool (allI zs x y))) := by
  refine PW.scalar ?_
  refine start (P := Tryz.prog) [[0, 1, 2], [0, 4, 5]] (by kernel_rfl) Tryz.func59 rfl (by decide) (by decide +kernel) (rs := [.tmp 6]) rfl rfl (Nat.le_of_ble_eq_true rfl) ?_
  intro wf
  repeat (first | rw [kz_o] | rw [kz_r0] | simp -dsimp -implicitDefEqProofs only [go_sem, rq1, rq2, rq3, rq4, rq5, rq6, rq7])
  refine wz_intro (containsI_ok hn0 (allIn1_ok (x := x) (y := y) (z1 := 1) (z2 := 1) ?_ ?_)) ?_
  · simp -dsimp -implicitDefEqProofs only [go_sem, rq1, rq2, rq3, rq4, rq5, rq6, rq7]
  · simp -dsimp -implicitDefEqProofs only [go_sem, rq1, rq2, rq3, rq4, rq5, rq6, rq7]
  rintro _ h' ⟨rfl, rfl⟩
  repeat (first | rw [kz_o] | rw [kz_r0] | simp -dsimp -implicitDefEqProofs only [go_sem, rq1, rq2, rq3, rq4, rq5, rq6, rq7])
  exact ⟨le_push (H2.le_push1 h _), ⟨_, rfl⟩, by rw [allI, List.all_eq_not_any_not]⟩
theorem l05All_ok {f : Adr} {zs : List Int} {x y : Int} {h : H2} (hn0 : zs.length ≤ 9223372036854775807) :
    PW Tryz.prog W0 139 [.sl f 1 (ints zs), .raw (.int .i64 x), .raw (.int .i64 y)] h (fun r => r = .raw (.bool (allI zs x y))) := by
  refine PW.scalar ?_
  refine start (P := Tryz.prog) [[0, 1, 2], [0, 1, 2], [0, 1, 2, 7], [0, 1, 2, 7], [0, 1, 2, 7], [], []] (by kernel_rfl) Tryz.func139 rfl (by decide) (by decide +kernel) (rs := [.tmp 6]) rfl rfl (Nat.le_of_ble_eq_true rfl) ?_
  intro wf
  repeat (first | rw [kz_o] | rw [kz_r0] | simp -dsimp -implicitDefEqProofs only [go_sem, rq1, rq2, rq3, rq4, rq5, rq6, rq7])
  refine lz_keep [0, 1, 2] (fun m e h' => h' = h ∧ ∃ k : Nat, look e 7 .mk = .raw (.int .i64 k) ∧ m + k = zs.length ∧ ∀ j : Nat, j < k → inI (zs.getD j default) x y = true) zs.length ?_ ?_
  · exact ⟨rfl, 0, by simp -dsimp -implicitDefEqProofs only [go_sem, rq1, rq2, rq3, rq4, rq5, rq6, rq7], by omega, fun j hj => by omega⟩
  · rintro m e h hks ⟨rfl, k, e4, hk, hpre⟩
    simp -dsimp -implicitDefEqProofs only [go_sem, rq1, rq2, rq3, rq4, rq5, rq6, rq7] at hks
    repeat (first | rw [kz_o] | rw [kz_r0] | simp -dsimp -implicitDefEqProofs only [go_sem, rq1, rq2, rq3, rq4, rq5, rq6, rq7, hks, e4])
    refine gz_dec (fun h2 => ?_) (fun h2 => ?_)
    · have h3 : k < zs.length := by omega
      repeat (first | rw [kz_o] | rw [kz_r0] | simp -dsimp -implicitDefEqProofs only [go_sem, rq1, rq2, rq3, rq4, rq5, rq6, rq7, hks, e4, h3])
      refine wz_intro l01In_ok ?_
      rintro _ h' ⟨rfl, rfl⟩
      cases hi : inI (zs.getD k default) x y
      · repeat (first | rw [kz_o] | rw [kz_r0] | simp -dsimp -implicitDefEqProofs only [go_sem, rq1, rq2, rq3, rq4, rq5, rq6, rq7])
        exact ⟨H2.le.refl _, ⟨_, rfl⟩, by rw [allI, all_none h3 hi]⟩
      · repeat (first | rw [kz_o] | rw [kz_r0] | simp -dsimp -implicitDefEqProofs only [go_sem, rq1, rq2, rq3, rq4, rq5, rq6, rq7, hks, e4, wrap_succ h3 hn0])
        refine nx_keep (m - 1) (by omega) (by simp -dsimp -implicitDefEqProofs only [go_sem, rq1, rq2, rq3, rq4, rq5, rq6, rq7, hks]) ⟨rfl, k + 1, by simp -dsimp -implicitDefEqProofs only [go_sem, rq1, rq2, rq3, rq4, rq5, rq6, rq7], by omega, fun j hj => ?_⟩
        by_cases hji : j = k
        · subst hji; exact hi
        · exact hpre j (by omega)
    · repeat (first | rw [kz_o] | rw [kz_r0] | simp -dsimp -implicitDefEqProofs only [go_sem, rq1, rq2, rq3, rq4, rq5, rq6, rq7, hks, e4])
      exact ⟨H2.le.refl _, ⟨_, rfl⟩, by rw [allI, all_getD fun j hj => hpre j (by omega)]⟩
end Go.Bi
end
section
set_option linter.unusedSimpArgs false
set_option linter.unusedVariables false
set_option maxRecDepth 20000
namespace Go.Bi
open Go.Proofs
open Go.Ai (wrap_i64 wrap_u8 Heap)
variable {W0 : World} {P : Program}
set_option maxHeartbeats 2000000
def widthB (n : Int) : Bool := inI n 4 8 && decide (Int.tmod n 4 = 0)
def rowB (r s : List Int) : Bool := widthB r.length && (allI r (-8) 7 && (decide ((s.length : Int) = Int.tdiv r.length 4) && allI s 1 127))
def gainB (r : List Int) (n : Int) : Bool := decide ((r.length : Int) = n) && allI r 0 127
theorem isWidth_ok {n : Int} {h : H2} : WC2 Tryz.prog W0 122 [.raw (.int .i64 n)] h (fun v h' => v = .raw (.bool (widthB n)) ∧ h' = h) := by
  refine start (P := Tryz.prog) [[0], [0]] (by kernel_rfl) Tryz.func122 rfl (by decide) (by decide +kernel) (rs := [.tmp 2]) rfl rfl (Nat.le_of_ble_eq_true rfl) ?_
  intro wf
  repeat (first | rw [kz_o] | rw [kz_r0] | simp -dsimp -implicitDefEqProofs only [go_sem, rq1, rq2, rq3, rq4, rq5, rq6, rq7])
  refine wz_intro in_ok ?_
  rintro _ h' ⟨rfl, rfl⟩
  cases hb : inI n 4 8
  · repeat (first | rw [kz_o] | rw [kz_r0] | simp -dsimp -implicitDefEqProofs only [go_sem, rq1, rq2, rq3, rq4, rq5, rq6, rq7])
    exact ⟨by rw [widthB, hb]; rfl, rfl⟩
  · repeat (first | rw [kz_o] | rw [kz_r0] | simp -dsimp -implicitDefEqProofs only [go_sem, rq1, rq2, rq3, rq4, rq5, rq6, rq7])
    exact ⟨by rw [widthB, hb]; rfl, rfl⟩
theorem l05Width_ok {n : Int} {h : H2} : WC2 Tryz.prog W0 136 [.raw (.int .i64 n)] h (fun v h' => v = .raw (.bool (widthB n)) ∧ h' = h) := by
  refine start (P := Tryz.prog) [[0], [0]] (by kernel_rfl) Tryz.func136 rfl (by decide) (by decide +kernel) (rs := [.tmp 2]) rfl rfl (Nat.le_of_ble_eq_true rfl) ?_
  intro wf
  repeat (first | rw [kz_o] | rw [kz_r0] | simp -dsimp -implicitDefEqProofs only [go_sem, rq1, rq2, rq3, rq4, rq5, rq6, rq7])
  refine wz_intro l01In_ok ?_
  rintro _ h' ⟨rfl, rfl⟩
  cases hb : inI n 4 8
  · repeat (first | rw [kz_o] | rw [kz_r0] | simp -dsimp -implicitDefEqProofs only [go_sem, rq1, rq2, rq3, rq4, rq5, rq6, rq7])
    exact ⟨by rw [widthB, hb]; rfl, rfl⟩
  · repeat (first | rw [kz_o] | rw [kz_r0] | simp -dsimp -implicitDefEqProofs only [go_sem, rq1, rq2, rq3, rq4, rq5, rq6, rq7])
    exact ⟨by rw [widthB, hb]; rfl, rfl⟩
theorem width_rng {n : Int} (h : widthB n = true) : n = 4 ∨ n = 8 := by
  unfold widthB inI at h
  simp only [Bool.and_eq_true, decide_eq_true_eq] at h
  obtain ⟨⟨h1, h2⟩, h3⟩ := h
  have h4 : n = 4 ∨ n = 5 ∨ n = 6 ∨ n = 7 ∨ n = 8 := by omega
  rcases h4 with rfl | rfl | rfl | rfl | rfl <;> first | exact .inl rfl | exact .inr rfl | exact absurd h3 (by decide)
theorem quo_len {n : Nat} (h : widthB n = true) : IntKind.i64.wrap (Int.tdiv (n : Int) 4) = Int.tdiv (n : Int) 4 := by
  rcases width_rng h with h | h <;> rw [h] <;> decide
theorem rowOk_ok {f f' : Adr} {r s : List Int} {g : H2} (hr : r.length ≤ 1048576) (hs : s.length ≤ 1048576) : PW Tryz.prog W0 237 [.sl f 1 (ints r), .sl f' 1 (ints s)] g (fun y => y = .raw (.bool (rowB r s))) := by
  refine PW.scalar ?_
  refine start (P := Tryz.prog) [[0, 1], [0, 1]] (by kernel_rfl) Tryz.func237 rfl (by decide) (by decide +kernel) (rs := [.tmp 4]) rfl rfl (Nat.le_of_ble_eq_true rfl) ?_
  intro wf
  repeat (first | rw [kz_o] | rw [kz_r0] | simp -dsimp -implicitDefEqProofs only [go_sem, rq1, rq2, rq3, rq4, rq5, rq6, rq7])
  refine wz_intro isWidth_ok ?_
  rintro _ h' ⟨rfl, rfl⟩
  cases h1 : widthB r.length
  · repeat (first | rw [kz_o] | rw [kz_r0] | simp -dsimp -implicitDefEqProofs only [go_sem, rq1, rq2, rq3, rq4, rq5, rq6, rq7])
    exact ⟨H2.le.refl _, ⟨_, rfl⟩, by rw [rowB, h1]; rfl⟩
  repeat (first | rw [kz_o] | rw [kz_r0] | simp -dsimp -implicitDefEqProofs only [go_sem, rq1, rq2, rq3, rq4, rq5, rq6, rq7])
  refine pw_intro (allIn_ok (by omega)) ?_
  rintro _ n1 hn1 rfl
  cases h2 : allI r (-8) 7
  · repeat (first | rw [kz_o] | rw [kz_r0] | simp -dsimp -implicitDefEqProofs only [go_sem, rq1, rq2, rq3, rq4, rq5, rq6, rq7])
    exact ⟨le_up (H2.le.refl _) hn1, ⟨_, rfl⟩, by rw [rowB, h1, h2]; rfl⟩
  have w1 := quo_len h1
  by_cases h3 : (s.length : Int) = Int.tdiv r.length 4
  · have d3 : decide ((s.length : Int) = Int.tdiv r.length 4) = true := decide_eq_true h3
    repeat (first | rw [kz_o] | rw [kz_r0] | simp -dsimp -implicitDefEqProofs only [go_sem, rq1, rq2, rq3, rq4, rq5, rq6, rq7, w1, d3])
    refine pw_intro (allIn_ok (by omega)) ?_
    rintro _ n2 hn2 rfl
    rw [hn_up] at hn2
    repeat (first | rw [kz_o] | rw [kz_r0] | simp -dsimp -implicitDefEqProofs only [go_sem, rq1, rq2, rq3, rq4, rq5, rq6, rq7, w1, d3])
    exact ⟨le_up (le_up (H2.le.refl _) hn1) (by rw [hn_up]; exact hn2), ⟨_, rfl⟩, by rw [rowB, h1, h2, d3]; rfl⟩
  · have d3 : decide ((s.length : Int) = Int.tdiv r.length 4) = false := decide_eq_false h3
    repeat (first | rw [kz_o] | rw [kz_r0] | simp -dsimp -implicitDefEqProofs only [go_sem, rq1, rq2, rq3, rq4, rq5, rq6, rq7, w1, d3])
    exact ⟨le_up (H2.le.refl _) hn1, ⟨_, rfl⟩, by rw [rowB, h1, h2, d3]; rfl⟩
theorem l05Fits_ok {f f' : Adr} {r s : List Int} {g : H2} (hr : r.length ≤ 1048576) (hs : s.length ≤ 1048576) : PW Tryz.prog W0 239 [.sl f 1 (ints r), .sl f' 1 (ints s)] g (fun y => y = .raw (.bool (rowB r s))) := by
  refine PW.scalar ?_
  refine start (P := Tryz.prog) [[0, 1], [0, 1]] (by kernel_rfl) Tryz.func239 rfl (by decide) (by decide +kernel) (rs := [.tmp 4]) rfl rfl (Nat.le_of_ble_eq_true rfl) ?_
  intro wf
  repeat (first | rw [kz_o] | rw [kz_r0] | simp -dsimp -implicitDefEqProofs only [go_sem, rq1, rq2, rq3, rq4, rq5, rq6, rq7])
  refine wz_intro l05Width_ok ?_
  rintro _ h' ⟨rfl, rfl⟩
  cases h1 : widthB r.length
  · repeat (first | rw [kz_o] | rw [kz_r0] | simp -dsimp -implicitDefEqProofs only [go_sem, rq1, rq2, rq3, rq4, rq5, rq6, rq7])
    exact ⟨H2.le.refl _, ⟨_, rfl⟩, by rw [rowB, h1]; rfl⟩
  repeat (first | rw [kz_o] | rw [kz_r0] | simp -dsimp -implicitDefEqProofs only [go_sem, rq1, rq2, rq3, rq4, rq5, rq6, rq7])
  refine pw_intro (l05All_ok (by omega)) ?_
  rintro _ n1 hn1 rfl
  cases h2 : allI r (-8) 7
  · repeat (first | rw [kz_o] | rw [kz_r0] | simp -dsimp -implicitDefEqProofs only [go_sem, rq1, rq2, rq3, rq4, rq5, rq6, rq7])
    exact ⟨le_up (H2.le.refl _) hn1, ⟨_, rfl⟩, by rw [rowB, h1, h2]; rfl⟩
  have w1 := quo_len h1
  by_cases h3 : (s.length : Int) = Int.tdiv r.length 4
  · have d3 : decide ((s.length : Int) = Int.tdiv r.length 4) = true := decide_eq_true h3
    repeat (first | rw [kz_o] | rw [kz_r0] | simp -dsimp -implicitDefEqProofs only [go_sem, rq1, rq2, rq3, rq4, rq5, rq6, rq7, w1, d3])
    refine pw_intro (l05All_ok (by omega)) ?_
    rintro _ n2 hn2 rfl
    rw [hn_up] at hn2
    repeat (first | rw [kz_o] | rw [kz_r0] | simp -dsimp -implicitDefEqProofs only [go_sem, rq1, rq2, rq3, rq4, rq5, rq6, rq7, w1, d3])
    exact ⟨le_up (le_up (H2.le.refl _) hn1) (by rw [hn_up]; exact hn2), ⟨_, rfl⟩, by rw [rowB, h1, h2, d3]; rfl⟩
  · have d3 : decide ((s.length : Int) = Int.tdiv r.length 4) = false := decide_eq_false h3
    repeat (first | rw [kz_o] | rw [kz_r0] | simp -dsimp -implicitDefEqProofs only [go_sem, rq1, rq2, rq3, rq4, rq5, rq6, rq7, w1, d3])
    exact ⟨le_up (H2.le.refl _) hn1, ⟨_, rfl⟩, by rw [rowB, h1, h2, d3]; rfl⟩
theorem implGain_ok {f : Adr} {r : List Int} {n : Int} {g : H2} (hr : r.length ≤ 1048576) : PW Tryz.prog W0 129 [.sl f 1 (ints r), .raw (.int .i64 n)] g (fun y => y = .raw (.bool (gainB r n))) := by
  refine PW.scalar ?_
  refine start (P := Tryz.prog) [[0, 1], [0, 1]] (by kernel_rfl) Tryz.func129 rfl (by decide) (by decide +kernel) (rs := [.tmp 4]) rfl rfl (Nat.le_of_ble_eq_true rfl) ?_
  intro wf
  by_cases h1 : (r.length : Int) = n
  · have d1 : decide ((r.length : Int) = n) = true := decide_eq_true h1
    repeat (first | rw [kz_o] | rw [kz_r0] | simp -dsimp -implicitDefEqProofs only [go_sem, rq1, rq2, rq3, rq4, rq5, rq6, rq7, d1])
    refine pw_intro (allIn_ok (by omega)) ?_
    rintro _ n1 hn1 rfl
    repeat (first | rw [kz_o] | rw [kz_r0] | simp -dsimp -implicitDefEqProofs only [go_sem, rq1, rq2, rq3, rq4, rq5, rq6, rq7, d1])
    exact ⟨le_up (H2.le.refl _) hn1, ⟨_, rfl⟩, by rw [gainB, d1]; rfl⟩
  · have d1 : decide ((r.length : Int) = n) = false := decide_eq_false h1
    repeat (first | rw [kz_o] | rw [kz_r0] | simp -dsimp -implicitDefEqProofs only [go_sem, rq1, rq2, rq3, rq4, rq5, rq6, rq7, d1])
    exact ⟨H2.le.refl _, ⟨_, rfl⟩, by rw [gainB, d1]; rfl⟩
theorem specGain_ok {f : Adr} {r : List Int} {n : Int} {g : H2} (hr : r.length ≤ 1048576) : PW Tryz.prog W0 141 [.sl f 1 (ints r), .raw (.int .i64 n)] g (fun y => y = .raw (.bool (gainB r n))) := by
  refine PW.scalar ?_
  refine start (P := Tryz.prog) [[0, 1], [0, 1]] (by kernel_rfl) Tryz.func141 rfl (by decide) (by decide +kernel) (rs := [.tmp 4]) rfl rfl (Nat.le_of_ble_eq_true rfl) ?_
  intro wf
  by_cases h1 : (r.length : Int) = n
  · have d1 : decide ((r.length : Int) = n) = true := decide_eq_true h1
    repeat (first | rw [kz_o] | rw [kz_r0] | simp -dsimp -implicitDefEqProofs only [go_sem, rq1, rq2, rq3, rq4, rq5, rq6, rq7, d1])
    refine pw_intro (l05All_ok (by omega)) ?_
    rintro _ n1 hn1 rfl
    repeat (first | rw [kz_o] | rw [kz_r0] | simp -dsimp -implicitDefEqProofs only [go_sem, rq1, rq2, rq3, rq4, rq5, rq6, rq7, d1])
    exact ⟨le_up (H2.le.refl _) hn1, ⟨_, rfl⟩, by rw [gainB, d1]; rfl⟩
  · have d1 : decide ((r.length : Int) = n) = false := decide_eq_false h1
    repeat (first | rw [kz_o] | rw [kz_r0] | simp -dsimp -implicitDefEqProofs only [go_sem, rq1, rq2, rq3, rq4, rq5, rq6, rq7, d1])
    exact ⟨H2.le.refl _, ⟨_, rfl⟩, by rw [gainB, d1]; rfl⟩
end Go.Bi
end
section
set_option linter.unusedSimpArgs false
set_option linter.unusedVariables false
set_option maxRecDepth 20000
namespace Go.Bi
open Go.Proofs
open Go.Ai (wrap_i64 wrap_u8 Heap)
variable {W0 : World} {P : Program}
set_option maxHeartbeats 2000000
def absZ (x : Int) : Int := if x < 0 then -x else x
def worstT (r s : List Int) : Nat → Int
  | 0 => 0
  | k + 1 => worstT r s k + s.getD (k / 4) default * 127 * absZ (r.getD k default)
def worstI (r s : List Int) : Int := if rowB r s = true then worstT r s r.length else 0
theorem row_facts {r s : List Int} (h : rowB r s = true) : (r.length = 4 ∨ r.length = 8) ∧ r.length = 4 * s.length ∧ (∀ z ∈ r, -8 ≤ z ∧ z ≤ 7) ∧ ∀ z ∈ s, 1 ≤ z ∧ z ≤ 127 := by
  unfold rowB at h
  simp only [Bool.and_eq_true, decide_eq_true_eq, allI, List.all_eq_true, inI] at h
  obtain ⟨h1, h2, h3, h4⟩ := h
  have hw := width_rng h1
  have e4 : Int.tdiv (4 : Int) 4 = 1 := by decide
  have e8 : Int.tdiv (8 : Int) 4 = 2 := by decide
  refine ⟨by omega, ?_, fun z hz => h2 z hz, fun z hz => h4 z hz⟩
  rcases hw with hw | hw <;> rw [hw] at h3 <;> omega
theorem getD_memZ {l : List Int} {i : Nat} (h : i < l.length) : l.getD i default ∈ l := by
  rw [List.getD_eq_getElem?_getD, List.getElem?_eq_getElem h]; exact List.getElem_mem h
theorem term_rng {r s : List Int} (h : rowB r s = true) {k : Nat} (hk : k < r.length) : (1 ≤ s.getD (k / 4) default ∧ s.getD (k / 4) default ≤ 127) ∧ (-8 ≤ r.getD k default ∧ r.getD k default ≤ 7) ∧ (0 ≤ absZ (r.getD k default) ∧ absZ (r.getD k default) ≤ 8) ∧ 0 ≤ s.getD (k / 4) default * 127 * absZ (r.getD k default) ∧ s.getD (k / 4) default * 127 * absZ (r.getD k default) ≤ 129032 := by
  obtain ⟨hl, hs, hr, hsc⟩ := row_facts h
  have h1 := hr _ (getD_memZ hk)
  have h2 := hsc _ (getD_memZ (show k / 4 < s.length by omega))
  have h3 : 0 ≤ absZ (r.getD k default) ∧ absZ (r.getD k default) ≤ 8 := by unfold absZ; split <;> omega
  refine ⟨h2, h1, h3, Int.mul_nonneg (by omega) h3.1, ?_⟩
  have := Int.mul_le_mul (show s.getD (k / 4) default * 127 ≤ 16129 by omega) h3.2 h3.1 (by omega)
  omega
theorem worstT_rng {r s : List Int} (h : rowB r s = true) : ∀ {k : Nat}, k ≤ r.length → 0 ≤ worstT r s k ∧ worstT r s k ≤ 129032 * (k : Int)
  | 0, _ => by simp [worstT]
  | k + 1, hk => by
    have h1 := worstT_rng h (k := k) (by omega)
    have h2 := (term_rng h (show k < r.length by omega)).2.2.2
    rw [worstT]
    omega
theorem implWorst_ok {f f' : Adr} {r s : List Int} {g : H2} (hr : r.length ≤ 1048576) (hs : s.length ≤ 1048576) : PW Tryz.prog W0 205 [.sl f 1 (ints r), .sl f' 1 (ints s)] g (fun y => y = .raw (.int .i64 (worstI r s))) := by
  refine PW.scalar ?_
  refine start (P := Tryz.prog) [[0, 1], [0, 1], [], [0, 1], [0, 1, 5], [1, 5, 12, 13, 14], [1, 5, 12, 13, 14], [1, 5, 6, 7, 12, 13, 14], [1, 5, 12, 13, 14], [5]] (by kernel_rfl) Tryz.func205 rfl (by decide) (by decide +kernel) (rs := [.tmp 4]) rfl rfl (Nat.le_of_ble_eq_true rfl) ?_
  intro wf
  repeat (first | rw [kz_o] | rw [kz_r0] | simp -dsimp -implicitDefEqProofs only [go_sem, rq1, rq2, rq3, rq4, rq5, rq6, rq7])
  refine pw_intro (rowOk_ok hr hs) ?_
  rintro _ n1 hn1 rfl
  cases h1 : rowB r s
  · repeat (first | rw [kz_o] | rw [kz_r0] | simp -dsimp -implicitDefEqProofs only [go_sem, rq1, rq2, rq3, rq4, rq5, rq6, rq7])
    exact ⟨le_up (H2.le.refl _) hn1, ⟨_, rfl⟩, by rw [worstI, h1]; rfl⟩
  repeat (first | rw [kz_o] | rw [kz_r0] | simp -dsimp -implicitDefEqProofs only [go_sem, rq1, rq2, rq3, rq4, rq5, rq6, rq7])
  have hfa := row_facts h1
  refine lz_keep [1, 12, 13] (fun m e h' => ∃ (i : Nat), h' = g.up n1 ∧ look e 14 .mk = .raw (.int .i64 (i : Nat)) ∧ look e 5 .mk = .raw (.int .i64 (worstT r s i)) ∧ m + i = r.length) r.length ?_ ?_
  · exact ⟨0, rfl, by simp -dsimp -implicitDefEqProofs only [go_sem, rq1, rq2, rq3, rq4, rq5, rq6, rq7], by simp -dsimp -implicitDefEqProofs only [go_sem, rq1, rq2, rq3, rq4, rq5, rq6, rq7] <;> rfl, by omega⟩
  · rintro m e h' hks ⟨i, rfl, e14, e5, hm⟩
    simp -dsimp -implicitDefEqProofs only [go_sem, rq1, rq2, rq3, rq4, rq5, rq6, rq7] at hks
    by_cases h2 : (i : Int) < (r.length : Int)
    · have h3 : i < r.length := by omega
      obtain ⟨t1, t2, t3, t4, t5⟩ := term_rng h1 h3
      have t6 := worstT_rng h1 (k := i) (by omega)
      have w1 : IntKind.i64.wrap ((i : Int) + 1) = ((i + 1 : Nat) : Int) := by rw [wrap_i64] <;> omega
      have w2 : IntKind.i64.wrap (Int.tdiv (i : Int) 4) = ((i / 4 : Nat) : Int) := by
        rw [show Int.tdiv (i : Int) 4 = ((i / 4 : Nat) : Int) from rfl, wrap_i64] <;> omega
      have h4 : i / 4 < s.length := by omega
      have w3 : IntKind.i64.wrap (s.getD (i / 4) default * 127) = s.getD (i / 4) default * 127 := by rw [wrap_i64] <;> omega
      have w4 : IntKind.i64.wrap (0 - (r.getD i default)) = -(r.getD i default) := by rw [wrap_i64] <;> omega
      have w7 : Go.Ai.mxI (r.getD i default) (-(r.getD i default)) = absZ (r.getD i default) := by unfold Go.Ai.mxI absZ; split <;> split <;> omega
      have w5 : IntKind.i64.wrap (s.getD (i / 4) default * 127 * absZ (r.getD i default)) = s.getD (i / 4) default * 127 * absZ (r.getD i default) := by rw [wrap_i64] <;> omega
      have w6 : IntKind.i64.wrap (worstT r s i + s.getD (i / 4) default * 127 * absZ (r.getD i default)) = worstT r s (i + 1) := by rw [worstT, wrap_i64] <;> omega
      repeat (first | rw [kz_o] | rw [kz_r0] | simp -dsimp -implicitDefEqProofs only [go_sem, rq1, rq2, rq3, rq4, rq5, rq6, rq7, hks, e14, e5, h2, h3, h4, w2, w3, w4, w5, w6, w7, w1])
      exact nx_keep (m - 1) (by omega) (by simp -dsimp -implicitDefEqProofs only [go_sem, rq1, rq2, rq3, rq4, rq5, rq6, rq7, hks]) ⟨i + 1, rfl, by simp -dsimp -implicitDefEqProofs only [go_sem, rq1, rq2, rq3, rq4, rq5, rq6, rq7, w1], by simp -dsimp -implicitDefEqProofs only [go_sem, rq1, rq2, rq3, rq4, rq5, rq6, rq7], by omega⟩
    · obtain rfl : i = r.length := by omega
      repeat (first | rw [kz_o] | rw [kz_r0] | simp -dsimp -implicitDefEqProofs only [go_sem, rq1, rq2, rq3, rq4, rq5, rq6, rq7, hks, e14, e5, h2])
      exact ⟨le_up (H2.le.refl _) hn1, ⟨_, rfl⟩, by rw [worstI, h1]; rfl⟩
theorem abs_ok {x : Int} {g : H2} (hx : -1000000 ≤ x ∧ x ≤ 1000000) : WC2 Tryz.prog W0 259 [.raw (.int .i64 x)] g (fun v g' => v = .raw (.int .i64 (absZ x)) ∧ g' = g) := by
  refine start (P := Tryz.prog) [[0], [0], [0], [0]] (by kernel_rfl) Tryz.func259 rfl (by decide) (by decide +kernel) (rs := [.tmp 2]) rfl rfl (Nat.le_of_ble_eq_true rfl) ?_
  intro wf
  repeat (first | rw [kz_o] | rw [kz_r0] | simp -dsimp -implicitDefEqProofs only [go_sem, rq1, rq2, rq3, rq4, rq5, rq6, rq7])
  have w1 : IntKind.i64.wrap (0 - x) = -x := by rw [wrap_i64] <;> omega
  refine gz_dec (fun h1 => ?_) (fun h1 => ?_)
  · repeat (first | rw [kz_o] | rw [kz_r0] | simp -dsimp -implicitDefEqProofs only [go_sem, rq1, rq2, rq3, rq4, rq5, rq6, rq7, h1, w1])
    exact ⟨by rw [absZ, if_pos h1], rfl⟩
  · repeat (first | rw [kz_o] | rw [kz_r0] | simp -dsimp -implicitDefEqProofs only [go_sem, rq1, rq2, rq3, rq4, rq5, rq6, rq7, h1])
    exact ⟨by rw [absZ, if_neg h1], rfl⟩
theorem specWorst_ok {f f' : Adr} {r s : List Int} {g : H2} (hr : r.length ≤ 1048576) (hs : s.length ≤ 1048576) : PW Tryz.prog W0 240 [.sl f 1 (ints r), .sl f' 1 (ints s)] g (fun y => y = .raw (.int .i64 (worstI r s))) := by
  refine PW.scalar ?_
  refine start (P := Tryz.prog) [[0, 1], [0, 1], [], [0, 1], [0, 1, 5], [0, 1, 5, 6], [0, 1, 5, 6], [0, 1, 5, 6], [5]] (by kernel_rfl) Tryz.func240 rfl (by decide) (by decide +kernel) (rs := [.tmp 4]) rfl rfl (Nat.le_of_ble_eq_true rfl) ?_
  intro wf
  repeat (first | rw [kz_o] | rw [kz_r0] | simp -dsimp -implicitDefEqProofs only [go_sem, rq1, rq2, rq3, rq4, rq5, rq6, rq7])
  refine pw_intro (l05Fits_ok hr hs) ?_
  rintro _ n1 hn1 rfl
  cases h1 : rowB r s
  · repeat (first | rw [kz_o] | rw [kz_r0] | simp -dsimp -implicitDefEqProofs only [go_sem, rq1, rq2, rq3, rq4, rq5, rq6, rq7])
    exact ⟨le_up (H2.le.refl _) hn1, ⟨_, rfl⟩, by rw [worstI, h1]; rfl⟩
  repeat (first | rw [kz_o] | rw [kz_r0] | simp -dsimp -implicitDefEqProofs only [go_sem, rq1, rq2, rq3, rq4, rq5, rq6, rq7])
  have hfa := row_facts h1
  refine lz_keep [0, 1] (fun m e h' => ∃ (i : Nat), h' = g.up n1 ∧ look e 6 .mk = .raw (.int .i64 (i : Nat)) ∧ look e 5 .mk = .raw (.int .i64 (worstT r s i)) ∧ m + i = r.length) r.length ?_ ?_
  · exact ⟨0, rfl, by simp -dsimp -implicitDefEqProofs only [go_sem, rq1, rq2, rq3, rq4, rq5, rq6, rq7], by simp -dsimp -implicitDefEqProofs only [go_sem, rq1, rq2, rq3, rq4, rq5, rq6, rq7] <;> rfl, by omega⟩
  · rintro m e h' hks ⟨i, rfl, e6, e5, hm⟩
    simp -dsimp -implicitDefEqProofs only [go_sem, rq1, rq2, rq3, rq4, rq5, rq6, rq7] at hks
    by_cases h2 : (i : Int) < (r.length : Int)
    · have h3 : i < r.length := by omega
      obtain ⟨t1, t2, t3, t4, t5⟩ := term_rng h1 h3
      have t6 := worstT_rng h1 (k := i) (by omega)
      have w1 : IntKind.i64.wrap ((i : Int) + 1) = ((i + 1 : Nat) : Int) := by rw [wrap_i64] <;> omega
      have w2 : IntKind.i64.wrap (Int.tdiv (i : Int) 4) = ((i / 4 : Nat) : Int) := by
        rw [show Int.tdiv (i : Int) 4 = ((i / 4 : Nat) : Int) from rfl, wrap_i64] <;> omega
      have h4 : i / 4 < s.length := by omega
      have w3 : IntKind.i64.wrap (s.getD (i / 4) default * 127) = s.getD (i / 4) default * 127 := by rw [wrap_i64] <;> omega
      have w5 : IntKind.i64.wrap (s.getD (i / 4) default * 127 * absZ (r.getD i default)) = s.getD (i / 4) default * 127 * absZ (r.getD i default) := by rw [wrap_i64] <;> omega
      have w6 : IntKind.i64.wrap (worstT r s i + s.getD (i / 4) default * 127 * absZ (r.getD i default)) = worstT r s (i + 1) := by rw [worstT, wrap_i64] <;> omega
      repeat (first | rw [kz_o] | rw [kz_r0] | simp -dsimp -implicitDefEqProofs only [go_sem, rq1, rq2, rq3, rq4, rq5, rq6, rq7, hks, e6, e5, h2, h3])
      refine dq_intro [(0, []), (1, []), (2, []), (3, []), (4, []), (5, []), (6, []), (7, []), (8, []), (9, []), (10, []), (11, [5]), (12, []), (13, []), (14, [])] (by kernel_rfl) ?_
      repeat (first | rw [kz_o] | rw [kz_r0] | simp -dsimp -implicitDefEqProofs only [go_sem, rq1, rq2, rq3, rq4, rq5, rq6, rq7, hks, e6, e5, h2, h3, h4, w2, w3])
      refine wz_intro (abs_ok (by omega)) ?_
      rintro _ g' ⟨rfl, rfl⟩
      repeat (first | rw [kz_o] | rw [kz_r0] | simp -dsimp -implicitDefEqProofs only [go_sem, rq1, rq2, rq3, rq4, rq5, rq6, rq7, hks, e6, e5, h2, h3, h4, w2, w3, w5, w6, w1])
      exact nx_keep (m - 1) (by omega) (by simp -dsimp -implicitDefEqProofs only [go_sem, rq1, rq2, rq3, rq4, rq5, rq6, rq7, hks]) ⟨i + 1, rfl, by simp -dsimp -implicitDefEqProofs only [go_sem, rq1, rq2, rq3, rq4, rq5, rq6, rq7, w1], by simp -dsimp -implicitDefEqProofs only [go_sem, rq1, rq2, rq3, rq4, rq5, rq6, rq7], by omega⟩
    · obtain rfl : i = r.length := by omega
      repeat (first | rw [kz_o] | rw [kz_r0] | simp -dsimp -implicitDefEqProofs only [go_sem, rq1, rq2, rq3, rq4, rq5, rq6, rq7, hks, e6, e5, h2])
      exact ⟨le_up (H2.le.refl _) hn1, ⟨_, rfl⟩, by rw [worstI, h1]; rfl⟩
end Go.Bi
end
