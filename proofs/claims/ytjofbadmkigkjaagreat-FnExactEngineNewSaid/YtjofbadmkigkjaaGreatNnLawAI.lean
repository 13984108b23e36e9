/- Own lemmas that the theorem of this claim needs: the abstract machine and walks of functions. -/
import Derived.Test.YtjofbadmkigkjaaGreatNnLawAA
import Derived.Test.YtjofbadmkigkjaaGreatNnLawAB
import Derived.Test.YtjofbadmkigkjaaGreatNnLawAC
import Derived.Test.YtjofbadmkigkjaaGreatNnLawAD
import Derived.Test.YtjofbadmkigkjaaGreatNnLawAE
import Derived.Test.YtjofbadmkigkjaaGreatNnLawAF
import Derived.Test.YtjofbadmkigkjaaGreatNnLawAG
import Derived.Test.YtjofbadmkigkjaaGreatNnLawAH
open Nat renaming reduceBEq → rq1, reduceAdd → rq2, reduceLeDiff → rq3, reduceMul → rq4
open Int renaming reduceLE → rq5, reduceLT → rq6, reduceBEq → rq7
section
set_option linter.unusedSimpArgs false
set_option linter.unusedVariables false
set_option maxRecDepth 20000
namespace Go.Bi
open Go.Proofs
open Go.Ai (wrap_i64 wrap_u8)
variable {W0 : World}
def rLayerS (zs : List LLayer) : List (List T) := zs.map eLayer
theorem rLayerS_len {zs : List LLayer} : (rLayerS zs).length = zs.length := by simp [rLayerS]
theorem rLayerS_el {zs : List LLayer} {i : Nat} (hi : i < zs.length) : el (rLayerS zs) i = eLayer (zs.getD i default) := el_map hi
attribute [go_sem] rLayerS_len rLayerS_el
def szLayerS (zs : List LLayer) : Nat := zs.length + sumN szLayer zs
def fitLayerS (zs : List LLayer) : Prop := zs.length ≤ 9223372036854775807 ∧ ∀ x ∈ zs, fitLayer x
theorem szLayerS_pw {f : Adr} {zs : List LLayer} {left : Int} {h : H2} (hf : fitLayerS zs) (hl : 0 ≤ left ∧ left ≤ 1048576) : PW Tryz.prog W0 73 [.sl f 32 (rLayerS zs), .raw (.int .i64 left)] h (fun y => ∃ k : Int, y = .raw (.int .i64 k) ∧ (0 ≤ k → (szLayerS zs : Int) + k ≤ left)) := by
  obtain ⟨hf1, hf2⟩ := hf
  unfold szLayerS
  have hw : IntKind.i64.wrap (left - zs.length) = left - zs.length := by rw [wrap_i64] <;> omega
  refine PW.scalar ?_
  refine start (P := Tryz.prog) [[0, 1], [0, 1], [0, 1], [], [0, 1], [0, 1, 5], [0, 1, 5], [0, 1, 5], [0, 1, 5], [], [1]] (by kernel_rfl) Tryz.func73 rfl (by decide) (by decide +kernel) (rs := [.tmp 4]) rfl rfl (Nat.le_of_ble_eq_true rfl) ?_
  intro wf
  repeat (first | rw [kz_o] | rw [kz_r0] | simp -dsimp -implicitDefEqProofs only [go_sem, rq1, rq2, rq3, rq4, rq5, rq6, rq7, hw])
  refine gz_dec (fun h1 => ?_) (fun h1 => ?_)
  · repeat (first | rw [kz_o] | rw [kz_r0] | simp -dsimp -implicitDefEqProofs only [go_sem, rq1, rq2, rq3, rq4, rq5, rq6, rq7])
    exact ⟨H2.le.refl _, ⟨_, rfl⟩, _, rfl, fun hh => by omega⟩
  · repeat (first | rw [kz_o] | rw [kz_r0] | simp -dsimp -implicitDefEqProofs only [go_sem, rq1, rq2, rq3, rq4, rq5, rq6, rq7])
    refine lz_keep [0] (fun m e h' => ∃ (k n : Nat) (x : Int), h' = h.up n ∧ hn h .mk ≤ n ∧ look e 5 .mk = .raw (.int .i64 k) ∧ look e 1 .mk = .raw (.int .i64 x) ∧ 0 ≤ x ∧ (zs.length : Int) + sumN szLayer (zs.take k) + x ≤ left ∧ m + k = zs.length) zs.length ?_ ?_
    · exact ⟨0, hn h .mk, left - zs.length, up_self, Nat.le_refl _, by simp -dsimp -implicitDefEqProofs only [go_sem, rq1, rq2, rq3, rq4, rq5, rq6, rq7], by simp -dsimp -implicitDefEqProofs only [go_sem, rq1, rq2, rq3, rq4, rq5, rq6, rq7], by omega, by simp [sumN]; omega, by omega⟩
    · rintro m e h' hks ⟨k, n, x, rfl, hnn, e5, e1, hx, hsum, hk⟩
      simp -dsimp -implicitDefEqProofs only [go_sem, rq1, rq2, rq3, rq4, rq5, rq6, rq7] at hks
      by_cases h2 : (k : Int) < (zs.length : Int)
      · have h3 : k < zs.length := by omega
        have hst : sumN szLayer (zs.take (k + 1)) = sumN szLayer (zs.take k) + szLayer (zs.getD k default) := sumN_take (f := szLayer) h3
        repeat (first | rw [kz_o] | rw [kz_r0] | simp -dsimp -implicitDefEqProofs only [go_sem, rq1, rq2, rq3, rq4, rq5, rq6, rq7, hks, e5, e1, h2, h3])
        refine pw_intro (szLayer_ok (F := under (under f k)) (c := zs.getD k default) (hf2 _ (getD_mem h3)) ⟨by omega, by omega⟩) ?_
        rintro _ n2 hn2 ⟨x2, rfl, hx2⟩
        simp only [hn_up] at hn2
        repeat (first | rw [kz_o] | rw [kz_r0] | simp -dsimp -implicitDefEqProofs only [go_sem, rq1, rq2, rq3, rq4, rq5, rq6, rq7])
        refine gz_dec (fun h4 => ?_) (fun h4 => ?_)
        · repeat (first | rw [kz_o] | rw [kz_r0] | simp -dsimp -implicitDefEqProofs only [go_sem, rq1, rq2, rq3, rq4, rq5, rq6, rq7])
          exact ⟨(by first | exact le_up (H2.le.refl _) (by omega) | exact le_up (le_up (H2.le.refl _) hnn) (by rw [hn_up]; omega)), ⟨_, rfl⟩, _, rfl, fun hh => by omega⟩
        · repeat (first | rw [kz_o] | rw [kz_r0] | simp -dsimp -implicitDefEqProofs only [go_sem, rq1, rq2, rq3, rq4, rq5, rq6, rq7, hks, e5, wrap_succ h3 hf1])
          exact nx_keep (m - 1) (by omega) (by simp -dsimp -implicitDefEqProofs only [go_sem, rq1, rq2, rq3, rq4, rq5, rq6, rq7, hks]) ⟨k + 1, n2, x2, up_up, by omega, by simp -dsimp -implicitDefEqProofs only [go_sem, rq1, rq2, rq3, rq4, rq5, rq6, rq7], by simp -dsimp -implicitDefEqProofs only [go_sem, rq1, rq2, rq3, rq4, rq5, rq6, rq7], by omega, by have := hx2 (by omega); omega, by omega⟩
      · repeat (first | rw [kz_o] | rw [kz_r0] | simp -dsimp -implicitDefEqProofs only [go_sem, rq1, rq2, rq3, rq4, rq5, rq6, rq7, hks, e5, e1, h2])
        refine ⟨le_up (H2.le.refl _) hnn, ⟨_, rfl⟩, x, rfl, fun _ => ?_⟩
        rw [List.take_of_length_le (by omega)] at hsum
        omega
theorem eqLayerS_pw {f f' : Adr} {zs : List LLayer} {h : H2} (hf : fitLayerS zs) : PW Tryz.prog W0 84 [.sl f 32 (rLayerS zs), .sl f' 32 (rLayerS zs)] h (fun y => y = .raw (.bool true)) := by
  obtain ⟨hf1, hf2⟩ := hf
  refine PW.scalar ?_
  refine start (P := Tryz.prog) [[0, 1], [0, 1], [], [0, 1], [0, 1, 5], [0, 1, 5], [0, 1, 5], [], []] (by kernel_rfl) Tryz.func84 rfl (by decide) (by decide +kernel) (rs := [.tmp 4]) rfl rfl (Nat.le_of_ble_eq_true rfl) ?_
  intro wf
  repeat (first | rw [kz_o] | rw [kz_r0] | simp -dsimp -implicitDefEqProofs only [go_sem, rq1, rq2, rq3, rq4, rq5, rq6, rq7])
  refine lz_keep [0, 1] (fun m e h' => ∃ (k n : Nat), h' = h.up n ∧ hn h .mk ≤ n ∧ look e 5 .mk = .raw (.int .i64 k) ∧ m + k = zs.length) zs.length ?_ ?_
  · exact ⟨0, hn h .mk, up_self, Nat.le_refl _, by simp -dsimp -implicitDefEqProofs only [go_sem, rq1, rq2, rq3, rq4, rq5, rq6, rq7], by omega⟩
  · rintro m e h' hks ⟨k, n, rfl, hnn, e5, hk⟩
    simp -dsimp -implicitDefEqProofs only [go_sem, rq1, rq2, rq3, rq4, rq5, rq6, rq7] at hks
    by_cases h2 : (k : Int) < (zs.length : Int)
    · have h3 : k < zs.length := by omega
      repeat (first | rw [kz_o] | rw [kz_r0] | simp -dsimp -implicitDefEqProofs only [go_sem, rq1, rq2, rq3, rq4, rq5, rq6, rq7, hks, e5, h2])
      refine dq_intro [(0, []), (1, []), (2, []), (3, []), (4, []), (5, []), (6, []), (7, []), (8, []), (9, [])] (by kernel_rfl) ?_
      repeat (first | rw [kz_o] | rw [kz_r0] | simp -dsimp -implicitDefEqProofs only [go_sem, rq1, rq2, rq3, rq4, rq5, rq6, rq7, hks, e5, h3])
      refine pw_intro (eqLayer_ok (F := under (under f k)) (F' := under (under f' k)) (c := zs.getD k default) (hf2 _ (getD_mem h3))) ?_
      rintro _ n2 hn2 rfl
      simp only [hn_up] at hn2
      repeat (first | rw [kz_o] | rw [kz_r0] | simp -dsimp -implicitDefEqProofs only [go_sem, rq1, rq2, rq3, rq4, rq5, rq6, rq7, hks, e5, wrap_succ h3 hf1])
      exact nx_keep (m - 1) (by omega) (by simp -dsimp -implicitDefEqProofs only [go_sem, rq1, rq2, rq3, rq4, rq5, rq6, rq7, hks]) ⟨k + 1, n2, up_up, by omega, by simp -dsimp -implicitDefEqProofs only [go_sem, rq1, rq2, rq3, rq4, rq5, rq6, rq7], by omega⟩
    · repeat (first | rw [kz_o] | rw [kz_r0] | simp -dsimp -implicitDefEqProofs only [go_sem, rq1, rq2, rq3, rq4, rq5, rq6, rq7, hks, e5, h2])
      exact ⟨le_up (H2.le.refl _) hnn, ⟨_, rfl⟩, rfl⟩
theorem toLayerS_new {f : Adr} {zs : List LLayer} {h : H2} (hs : szLayerS zs ≤ 1048576) : NewT Tryz.prog W0 79 [.sl f 32 (rLayerS zs)] h (.l 32 (rLayerS zs)) := by
  unfold szLayerS at hs
  have hE : ∀ a, (eLayer a).length = 32 := fun a => rfl
  refine start (P := Tryz.prog) [[0], [0], [0, 3], [0, 3, 4], [0, 3, 4], [0, 3, 4], [3]] (by kernel_rfl) Tryz.func79 rfl (by decide) (by decide +kernel) (rs := [.tmp 2]) rfl rfl (Nat.le_of_ble_eq_true rfl) ?_
  intro wf
  repeat (first | rw [kz_o] | rw [kz_r0] | simp -dsimp -implicitDefEqProofs only [go_sem, rq1, rq2, rq3, rq4, rq5, rq6, rq7])
  refine make_intro Ai.ty_el26 Ai.ty_zr155 (by decide) ⟨by omega, by simp only [Int.toNat_natCast]; have : Ai.most = 1099511627776 := rfl; omega⟩ ?_
  repeat (first | rw [kz_o] | rw [kz_r0] | simp -dsimp -implicitDefEqProofs only [go_sem, rq1, rq2, rq3, rq4, rq5, rq6, rq7])
  refine lz_keep [0, 3] (fun m e h' => ∃ (k : Nat) (cs : List X) (bs : List Nat), look e 4 .mk = .raw (.int .i64 k) ∧ m + k = zs.length ∧ hg h' (hn h .mk) .mk = some ⟨32, cs⟩ ∧ cs.length = zs.length * 32 ∧ OTs h' bs (cs.take (k * 32)) (((zs.take k).map eLayer).flatten) ∧ Bl (hn h .mk + 1) (hn h' .mk) bs ∧ h.le h' ∧ hn h .mk < hn h' .mk) zs.length ?_ ?_
  · exact ⟨0, _, [], by simp -dsimp -implicitDefEqProofs only [go_sem, rq1, rq2, rq3, rq4, rq5, rq6, rq7], by omega, (by rw [hg_push, hoo]; rfl), by simp [rep_len], by simpa using OTs.nil, Bl.nil, le_push (H2.le.refl _), by rw [hn_push]; omega⟩
  · rintro m e h' hks ⟨k, cs, bs, e4, hk, hrow, hcs, ho, hbl, hle, hlt⟩
    simp -dsimp -implicitDefEqProofs only [go_sem, rq1, rq2, rq3, rq4, rq5, rq6, rq7, Int.toNat_natCast] at hks
    by_cases h2 : (k : Int) < (zs.length : Int)
    · have h3 : k < zs.length := by omega
      have hsm : szLayer (zs.getD k default) ≤ sumN szLayer zs := sumN_mem (f := szLayer) (getD_mem h3)
      repeat (first | rw [kz_o] | rw [kz_r0] | simp -dsimp -implicitDefEqProofs only [go_sem, rq1, rq2, rq3, rq4, rq5, rq6, rq7, hks, e4, h2, h3])
      refine wz_intro (toLayer_ok (F := under (under f k)) (c := zs.getD k default) (by omega)) ?_
      rintro _ g2 ⟨l2, ys, b2, rfl, o2, bl2⟩
      have nn2 := l2.1
      have hyl : (ys).length = 32 := (OTs.len o2).trans (hE _)
      have hyo := OTs.okx o2
      obtain ⟨w1, w2, w3⟩ := wrt_next hcs h3 hyl
      have row2 := (l2.2 (hn h .mk) hlt).trans hrow
      have hi2 : (0 : Int) ≤ (k : Int) ∧ (k : Int) < (zs.length : Int) := by omega
      repeat (first | rw [kz_o] | rw [kz_r0] | simp -dsimp -implicitDefEqProofs only [go_sem, rq1, rq2, rq3, rq4, rq5, rq6, rq7, hks, e4, row2, hi2, hyl, hyo, w1, wrap_succ h3 (by omega)])
      have hset : ∀ {b : Nat} {kk : OB}, b ≠ hn h .mk → (g2.set (hn h .mk) kk).get b = g2.get b := fun hb => by simp only [H2.set]; rw [if_neg hb]
      refine nx_keep (m - 1) (by omega) (by simp -dsimp -implicitDefEqProofs only [go_sem, rq1, rq2, rq3, rq4, rq5, rq6, rq7, hks]) ⟨k + 1, _, bs ++ b2, by simp -dsimp -implicitDefEqProofs only [go_sem, rq1, rq2, rq3, rq4, rq5, rq6, rq7], by omega, (by rw [hg_set, hoo]; rfl), w2, ?_, ?_, le_set (hle.trans l2) (Nat.le_refl _), by simp -dsimp -implicitDefEqProofs only [go_sem, rq1, rq2, rq3, rq4, rq5, rq6, rq7] <;> omega⟩
      · rw [w3, flat_next h3]
        refine OTs.append ((OTs.keep ho l2 hbl).frame fun b hb => hset (by have := (hbl.2 b hb).1; omega)) (o2.frame fun b hb => hset (by have := (bl2.2 b hb).1; omega))
      · rw [hn_set]
        exact hbl.append bl2 (by omega) nn2
    · repeat (first | rw [kz_o] | rw [kz_r0] | simp -dsimp -implicitDefEqProofs only [go_sem, rq1, rq2, rq3, rq4, rq5, rq6, rq7, hks, e4, h2])
      have : k = zs.length := by omega
      subst this
      obtain ⟨q1, q2⟩ := OT.full hE hrow hcs ho hbl hlt
      exact ⟨hle, _, q1, q2⟩
structure LModel where
  dim : Int
  heads : Int
  context : Int
  merges : List LMerge
  embed : List (List Int)
  layers : List LLayer
  gainEnd : List Int
  head : LMatrix
  turns : LTurns
instance : Inhabited LModel := ⟨⟨default, default, default, default, default, default, default, default, default⟩⟩
def eModel (c : LModel) : List T := [.v (.int .i64 c.dim), .v (.int .i64 c.heads), .v (.int .i64 c.context), .l 2 (rMergeS c.merges), .l 1 (rIntSS c.embed), .l 32 (rLayerS c.layers), .l 1 (ints c.gainEnd), .v (.int .i64 c.head.width), .l 1 (rIntSS c.head.rows), .l 1 (rIntSS c.head.scales), .v (.int .i64 c.head.mul), .v (.int .i64 c.head.shift), .l 1 (rIntSS c.turns.cos), .l 1 (rIntSS c.turns.sin)]
def xModel (F : Nat → Adr) (c : LModel) : List X := [.raw (.int .i64 c.dim), .raw (.int .i64 c.heads), .raw (.int .i64 c.context), .sl (F 3) 2 (rMergeS c.merges), .sl (F 4) 1 (rIntSS c.embed), .sl (F 5) 32 (rLayerS c.layers), .sl (F 6) 1 (ints c.gainEnd), .raw (.int .i64 c.head.width), .sl (F 8) 1 (rIntSS c.head.rows), .sl (F 9) 1 (rIntSS c.head.scales), .raw (.int .i64 c.head.mul), .raw (.int .i64 c.head.shift), .sl (F 12) 1 (rIntSS c.turns.cos), .sl (F 13) 1 (rIntSS c.turns.sin)]
theorem xModel_def {F : Nat → Adr} {c : LModel} : xModel F c = [.raw (.int .i64 c.dim), .raw (.int .i64 c.heads), .raw (.int .i64 c.context), .sl (F 3) 2 (rMergeS c.merges), .sl (F 4) 1 (rIntSS c.embed), .sl (F 5) 32 (rLayerS c.layers), .sl (F 6) 1 (ints c.gainEnd), .raw (.int .i64 c.head.width), .sl (F 8) 1 (rIntSS c.head.rows), .sl (F 9) 1 (rIntSS c.head.scales), .raw (.int .i64 c.head.mul), .raw (.int .i64 c.head.shift), .sl (F 12) 1 (rIntSS c.turns.cos), .sl (F 13) 1 (rIntSS c.turns.sin)] := rfl
def szModel (c : LModel) : Nat := szMergeS c.merges + szIntSS c.embed + szLayerS c.layers + c.gainEnd.length + szMatrix c.head + szTurns c.turns
def fitModel (c : LModel) : Prop := fitMergeS c.merges ∧ fitIntSS c.embed ∧ fitLayerS c.layers ∧ c.gainEnd.length ≤ 9223372036854775807 ∧ fitMatrix c.head ∧ fitTurns c.turns
attribute [go_sem] xModel_def
theorem invModel {g : H2} {bs : List Nat} {ys : List X} {c : LModel} (o : OTs g bs ys (eModel c)) : ∃ b3 s3 b4 s4 b5 s5 b6 s6 b8 s8 b9 s9 b12 s12 b13 s13, ys = [.raw (.int .i64 c.dim), .raw (.int .i64 c.heads), .raw (.int .i64 c.context), s3, s4, s5, s6, .raw (.int .i64 c.head.width), s8, s9, .raw (.int .i64 c.head.mul), .raw (.int .i64 c.head.shift), s12, s13] ∧ bs = b3 ++ (b4 ++ (b5 ++ (b6 ++ (b8 ++ (b9 ++ (b12 ++ b13)))))) ∧ OT g b3 s3 (.l 2 (rMergeS c.merges)) ∧ OT g b4 s4 (.l 1 (rIntSS c.embed)) ∧ OT g b5 s5 (.l 32 (rLayerS c.layers)) ∧ OT g b6 s6 (.l 1 (ints c.gainEnd)) ∧ OT g b8 s8 (.l 1 (rIntSS c.head.rows)) ∧ OT g b9 s9 (.l 1 (rIntSS c.head.scales)) ∧ OT g b12 s12 (.l 1 (rIntSS c.turns.cos)) ∧ OT g b13 s13 (.l 1 (rIntSS c.turns.sin)) := by
  unfold eModel at o
  obtain ⟨ys0, rfl, o0⟩ := OTs.headv o
  obtain ⟨ys1, rfl, o1⟩ := OTs.headv o0
  obtain ⟨ys2, rfl, o2⟩ := OTs.headv o1
  obtain ⟨b3, bs3, s3, ys3, rfl, rfl, a3, o3⟩ := OTs.head o2
  obtain ⟨b4, bs4, s4, ys4, rfl, rfl, a4, o4⟩ := OTs.head o3
  obtain ⟨b5, bs5, s5, ys5, rfl, rfl, a5, o5⟩ := OTs.head o4
  obtain ⟨b6, bs6, s6, ys6, rfl, rfl, a6, o6⟩ := OTs.head o5
  obtain ⟨ys7, rfl, o7⟩ := OTs.headv o6
  obtain ⟨b8, bs8, s8, ys8, rfl, rfl, a8, o8⟩ := OTs.head o7
  obtain ⟨b9, bs9, s9, ys9, rfl, rfl, a9, o9⟩ := OTs.head o8
  obtain ⟨ys10, rfl, o10⟩ := OTs.headv o9
  obtain ⟨ys11, rfl, o11⟩ := OTs.headv o10
  obtain ⟨b12, bs12, s12, ys12, rfl, rfl, a12, o12⟩ := OTs.head o11
  obtain ⟨b13, bs13, s13, ys13, rfl, rfl, a13, o13⟩ := OTs.head o12
  obtain ⟨rfl, rfl⟩ := OTs.tail0 o13
  exact ⟨_, _, _, _, _, _, _, _, _, _, _, _, _, _, _, _, rfl, by simp only [List.append_nil], a3, a4, a5, a6, a8, a9, a12, a13⟩
theorem outModel {g : H2} {c : LModel} {b3 b4 b5 b6 b8 b9 b12 b13 : List Nat} {s3 s4 s5 s6 s8 s9 s12 s13 : X} (a3 : OT g b3 s3 (.l 2 (rMergeS c.merges))) (a4 : OT g b4 s4 (.l 1 (rIntSS c.embed))) (a5 : OT g b5 s5 (.l 32 (rLayerS c.layers))) (a6 : OT g b6 s6 (.l 1 (ints c.gainEnd))) (a8 : OT g b8 s8 (.l 1 (rIntSS c.head.rows))) (a9 : OT g b9 s9 (.l 1 (rIntSS c.head.scales))) (a12 : OT g b12 s12 (.l 1 (rIntSS c.turns.cos))) (a13 : OT g b13 s13 (.l 1 (rIntSS c.turns.sin))) : OTs g (b3 ++ (b4 ++ (b5 ++ (b6 ++ (b8 ++ (b9 ++ (b12 ++ b13))))))) [.raw (.int .i64 c.dim), .raw (.int .i64 c.heads), .raw (.int .i64 c.context), s3, s4, s5, s6, .raw (.int .i64 c.head.width), s8, s9, .raw (.int .i64 c.head.mul), .raw (.int .i64 c.head.shift), s12, s13] (eModel c) := by
  have := OTs.cons (OT.raw (v := .int .i64 c.dim) rfl) (OTs.cons (OT.raw (v := .int .i64 c.heads) rfl) (OTs.cons (OT.raw (v := .int .i64 c.context) rfl) (OTs.cons a3 (OTs.cons a4 (OTs.cons a5 (OTs.cons a6 (OTs.cons (OT.raw (v := .int .i64 c.head.width) rfl) (OTs.cons a8 (OTs.cons a9 (OTs.cons (OT.raw (v := .int .i64 c.head.mul) rfl) (OTs.cons (OT.raw (v := .int .i64 c.head.shift) rfl) (OTs.cons a12 (OTs.cons a13 (OTs.nil))))))))))))))
  simpa only [eModel, List.append_nil, List.nil_append] using this
theorem szModel_ok {F : Nat → Adr} {c : LModel} {left : Int} {h : H2} (hf : fitModel c) (hl : 0 ≤ left ∧ left ≤ 1048576) : PW Tryz.prog W0 24 [.st (xModel F c), .raw (.int .i64 left)] h (fun y => ∃ k : Int, y = .raw (.int .i64 k) ∧ (0 ≤ k → (szModel c : Int) + k ≤ left)) := by
  unfold fitModel at hf
  refine PW.scalar ?_
  refine start (P := Tryz.prog) [[0, 1], [1, 2], [1, 2], [], [1, 2], [1, 2], [], [1, 2], [1, 2], [], [1, 2], [1, 2], [], [1, 2], [1, 2], [], [1, 2], [1], [], [1]] (by kernel_rfl) Tryz.func24 rfl (by decide) (by decide +kernel) (rs := [.tmp 4]) rfl rfl (Nat.le_of_ble_eq_true rfl) ?_
  intro wf
  repeat (first | rw [kz_o] | rw [kz_r0] | simp -dsimp -implicitDefEqProofs only [go_sem, rq1, rq2, rq3, rq4, rq5, rq6, rq7])
  refine pw_intro (szMergeS_pw  hf.1 ⟨by omega, by omega⟩) ?_
  rintro _ n3 hn3 ⟨k3, rfl, hk3⟩
  repeat (first | rw [kz_o] | rw [kz_r0] | simp -dsimp -implicitDefEqProofs only [go_sem, rq1, rq2, rq3, rq4, rq5, rq6, rq7])
  refine gz_dec (fun q3 => ?_) (fun q3 => ?_)
  · repeat (first | rw [kz_o] | rw [kz_r0] | simp -dsimp -implicitDefEqProofs only [go_sem, rq1, rq2, rq3, rq4, rq5, rq6, rq7])
    exact ⟨by repeat (first | exact H2.le.refl _ | apply le_push | refine le_up ?_ (by assumption)), ⟨_, rfl⟩, _, rfl, fun hh => by omega⟩
  repeat (first | rw [kz_o] | rw [kz_r0] | simp -dsimp -implicitDefEqProofs only [go_sem, rq1, rq2, rq3, rq4, rq5, rq6, rq7])
  refine pw_intro (szIntSS_pw  hf.2.1 ⟨by omega, by omega⟩) ?_
  rintro _ n4 hn4 ⟨k4, rfl, hk4⟩
  repeat (first | rw [kz_o] | rw [kz_r0] | simp -dsimp -implicitDefEqProofs only [go_sem, rq1, rq2, rq3, rq4, rq5, rq6, rq7])
  refine gz_dec (fun q4 => ?_) (fun q4 => ?_)
  · repeat (first | rw [kz_o] | rw [kz_r0] | simp -dsimp -implicitDefEqProofs only [go_sem, rq1, rq2, rq3, rq4, rq5, rq6, rq7])
    exact ⟨by repeat (first | exact H2.le.refl _ | apply le_push | refine le_up ?_ (by assumption)), ⟨_, rfl⟩, _, rfl, fun hh => by omega⟩
  repeat (first | rw [kz_o] | rw [kz_r0] | simp -dsimp -implicitDefEqProofs only [go_sem, rq1, rq2, rq3, rq4, rq5, rq6, rq7])
  refine pw_intro (szLayerS_pw  hf.2.2.1 ⟨by omega, by omega⟩) ?_
  rintro _ n5 hn5 ⟨k5, rfl, hk5⟩
  repeat (first | rw [kz_o] | rw [kz_r0] | simp -dsimp -implicitDefEqProofs only [go_sem, rq1, rq2, rq3, rq4, rq5, rq6, rq7])
  refine gz_dec (fun q5 => ?_) (fun q5 => ?_)
  · repeat (first | rw [kz_o] | rw [kz_r0] | simp -dsimp -implicitDefEqProofs only [go_sem, rq1, rq2, rq3, rq4, rq5, rq6, rq7])
    exact ⟨by repeat (first | exact H2.le.refl _ | apply le_push | refine le_up ?_ (by assumption)), ⟨_, rfl⟩, _, rfl, fun hh => by omega⟩
  repeat (first | rw [kz_o] | rw [kz_r0] | simp -dsimp -implicitDefEqProofs only [go_sem, rq1, rq2, rq3, rq4, rq5, rq6, rq7])
  refine pw_intro (szIntS_pw  hf.2.2.2.1 ⟨by omega, by omega⟩) ?_
  rintro _ n6 hn6 ⟨k6, rfl, hk6⟩
  repeat (first | rw [kz_o] | rw [kz_r0] | simp -dsimp -implicitDefEqProofs only [go_sem, rq1, rq2, rq3, rq4, rq5, rq6, rq7])
  refine gz_dec (fun q6 => ?_) (fun q6 => ?_)
  · repeat (first | rw [kz_o] | rw [kz_r0] | simp -dsimp -implicitDefEqProofs only [go_sem, rq1, rq2, rq3, rq4, rq5, rq6, rq7])
    exact ⟨by repeat (first | exact H2.le.refl _ | apply le_push | refine le_up ?_ (by assumption)), ⟨_, rfl⟩, _, rfl, fun hh => by omega⟩
  repeat (first | rw [kz_o] | rw [kz_r0] | simp -dsimp -implicitDefEqProofs only [go_sem, rq1, rq2, rq3, rq4, rq5, rq6, rq7])
  refine pw_intro (szMatrix_ok (F := fun j => F (j + 7)) hf.2.2.2.2.1 ⟨by omega, by omega⟩) ?_
  rintro _ n7 hn7 ⟨k7, rfl, hk7⟩
  repeat (first | rw [kz_o] | rw [kz_r0] | simp -dsimp -implicitDefEqProofs only [go_sem, rq1, rq2, rq3, rq4, rq5, rq6, rq7])
  refine gz_dec (fun q7 => ?_) (fun q7 => ?_)
  · repeat (first | rw [kz_o] | rw [kz_r0] | simp -dsimp -implicitDefEqProofs only [go_sem, rq1, rq2, rq3, rq4, rq5, rq6, rq7])
    exact ⟨by repeat (first | exact H2.le.refl _ | apply le_push | refine le_up ?_ (by assumption)), ⟨_, rfl⟩, _, rfl, fun hh => by omega⟩
  repeat (first | rw [kz_o] | rw [kz_r0] | simp -dsimp -implicitDefEqProofs only [go_sem, rq1, rq2, rq3, rq4, rq5, rq6, rq7])
  refine pw_intro (szTurns_ok (F := fun j => F (j + 12)) hf.2.2.2.2.2 ⟨by omega, by omega⟩) ?_
  rintro _ n8 hn8 ⟨k8, rfl, hk8⟩
  repeat (first | rw [kz_o] | rw [kz_r0] | simp -dsimp -implicitDefEqProofs only [go_sem, rq1, rq2, rq3, rq4, rq5, rq6, rq7])
  refine gz_dec (fun q8 => ?_) (fun q8 => ?_)
  · repeat (first | rw [kz_o] | rw [kz_r0] | simp -dsimp -implicitDefEqProofs only [go_sem, rq1, rq2, rq3, rq4, rq5, rq6, rq7])
    exact ⟨by repeat (first | exact H2.le.refl _ | apply le_push | refine le_up ?_ (by assumption)), ⟨_, rfl⟩, _, rfl, fun hh => by omega⟩
  repeat (first | rw [kz_o] | rw [kz_r0] | simp -dsimp -implicitDefEqProofs only [go_sem, rq1, rq2, rq3, rq4, rq5, rq6, rq7])
  exact ⟨by repeat (first | exact H2.le.refl _ | apply le_push | refine le_up ?_ (by assumption)), ⟨_, rfl⟩, _, rfl, fun hh => by unfold szModel; omega⟩
theorem eqModel_ok {F F' : Nat → Adr} {c : LModel} {h : H2} (hf : fitModel c) : PW Tryz.prog W0 26 [.st (xModel F c), .st (xModel F' c)] h (fun y => y = .raw (.bool true)) := by
  unfold fitModel at hf
  refine PW.scalar ?_
  refine start (P := Tryz.prog) [[0, 1], [2, 3], [], [2, 3], [], [2, 3], [], [2, 3], [], [2, 3], [], [2, 3], [], [2, 3], [], [2, 3], [], [2, 3], [], []] (by kernel_rfl) Tryz.func26 rfl (by decide) (by decide +kernel) (rs := [.tmp 4]) rfl rfl (Nat.le_of_ble_eq_true rfl) ?_
  intro wf
  repeat (first | rw [kz_o] | rw [kz_r0] | simp -dsimp -implicitDefEqProofs only [go_sem, rq1, rq2, rq3, rq4, rq5, rq6, rq7])
  refine pw_intro (eqMergeS_pw  hf.1) ?_
  rintro _ n3 hn3 rfl
  repeat (first | rw [kz_o] | rw [kz_r0] | simp -dsimp -implicitDefEqProofs only [go_sem, rq1, rq2, rq3, rq4, rq5, rq6, rq7])
  refine pw_intro (eqIntSS_pw  hf.2.1) ?_
  rintro _ n4 hn4 rfl
  repeat (first | rw [kz_o] | rw [kz_r0] | simp -dsimp -implicitDefEqProofs only [go_sem, rq1, rq2, rq3, rq4, rq5, rq6, rq7])
  refine pw_intro (eqLayerS_pw  hf.2.2.1) ?_
  rintro _ n5 hn5 rfl
  repeat (first | rw [kz_o] | rw [kz_r0] | simp -dsimp -implicitDefEqProofs only [go_sem, rq1, rq2, rq3, rq4, rq5, rq6, rq7])
  refine pw_intro (eqIntS_pw  hf.2.2.2.1) ?_
  rintro _ n6 hn6 rfl
  repeat (first | rw [kz_o] | rw [kz_r0] | simp -dsimp -implicitDefEqProofs only [go_sem, rq1, rq2, rq3, rq4, rq5, rq6, rq7])
  refine pw_intro (eqMatrix_ok (F := fun j => F (j + 7)) (F' := fun j => F' (j + 7)) hf.2.2.2.2.1) ?_
  rintro _ n7 hn7 rfl
  repeat (first | rw [kz_o] | rw [kz_r0] | simp -dsimp -implicitDefEqProofs only [go_sem, rq1, rq2, rq3, rq4, rq5, rq6, rq7])
  refine pw_intro (eqTurns_ok (F := fun j => F (j + 12)) (F' := fun j => F' (j + 12)) hf.2.2.2.2.2) ?_
  rintro _ n8 hn8 rfl
  repeat (first | rw [kz_o] | rw [kz_r0] | simp -dsimp -implicitDefEqProofs only [go_sem, rq1, rq2, rq3, rq4, rq5, rq6, rq7])
  exact ⟨by repeat (first | exact H2.le.refl _ | apply le_push | refine le_up ?_ (by assumption)), ⟨_, rfl⟩, rfl⟩
theorem toModel_ok {F : Nat → Adr} {c : LModel} {h : H2} (hs : szModel c ≤ 1048576) : NewS Tryz.prog W0 25 [.st (xModel F c)] h (eModel c) := by
  unfold szModel at hs
  refine start (P := Tryz.prog) [[0], [1, 2], [1, 2, 3], [1, 2, 3], [1, 2, 3], [1, 2, 3], [1, 2, 3], [1, 2, 3], [1, 2, 3], [1, 2, 3], [1, 2, 3], [2, 3]] (by kernel_rfl) Tryz.func25 rfl (by decide) (by decide +kernel) (rs := [.cell 2 33]) rfl rfl (Nat.le_of_ble_eq_true rfl) ?_
  intro wf
  repeat (first | rw [kz_o] | rw [kz_r0] | simp -dsimp -implicitDefEqProofs only [go_sem, rq1, rq2, rq3, rq4, rq5, rq6, rq7])
  refine wz_intro (toMergeS_new  (by omega)) ?_
  rintro s3 g3 ⟨l3, b3, o3, bl3⟩
  have ce3 := OT.cell o3
  have n3 := l3.n
  have a30 := l3.2 (hn h .mk) (by simp only [hn_push, hn_set]; omega)
  have a31 := l3.2 (hn h .mk + 1) (by simp only [hn_push, hn_set]; omega)
  have a32 := l3.2 (hn h .mk + 1 + 1) (by simp only [hn_push, hn_set]; omega)
  simp -dsimp -implicitDefEqProofs only [go_sem, rq1, rq2, rq3, rq4, rq5, rq6, rq7, hoo] at n3 a30 a31 a32
  have L3 : h.le g3 := H2.le.trans (by repeat (first | exact H2.le.refl _ | apply le_push | refine le_set ?_ (by omega))) l3
  repeat (first | rw [kz_o] | rw [kz_r0] | simp -dsimp -implicitDefEqProofs only [go_sem, rq1, rq2, rq3, rq4, rq5, rq6, rq7, a30, a31, a32, ce3])
  refine wz_intro (toIntSS_new  (by omega)) ?_
  rintro s4 g4 ⟨l4, b4, o4, bl4⟩
  have ce4 := OT.cell o4
  have n4 := l4.n
  have a40 := l4.2 (hn h .mk) (by simp only [hn_push, hn_set]; omega)
  have a41 := l4.2 (hn h .mk + 1) (by simp only [hn_push, hn_set]; omega)
  have a42 := l4.2 (hn h .mk + 1 + 1) (by simp only [hn_push, hn_set]; omega)
  simp -dsimp -implicitDefEqProofs only [go_sem, rq1, rq2, rq3, rq4, rq5, rq6, rq7, a30, a31, a32, hoo] at n4 a40 a41 a42
  have L4 : h.le g4 := H2.le.trans (by repeat (first | exact L3 | exact H2.le.refl _ | apply le_push | refine le_set ?_ (by omega))) l4
  repeat (first | rw [kz_o] | rw [kz_r0] | simp -dsimp -implicitDefEqProofs only [go_sem, rq1, rq2, rq3, rq4, rq5, rq6, rq7, a40, a41, a42, ce3, ce4])
  refine wz_intro (toLayerS_new  (by omega)) ?_
  rintro s5 g5 ⟨l5, b5, o5, bl5⟩
  have ce5 := OT.cell o5
  have n5 := l5.n
  have a50 := l5.2 (hn h .mk) (by simp only [hn_push, hn_set]; omega)
  have a51 := l5.2 (hn h .mk + 1) (by simp only [hn_push, hn_set]; omega)
  have a52 := l5.2 (hn h .mk + 1 + 1) (by simp only [hn_push, hn_set]; omega)
  simp -dsimp -implicitDefEqProofs only [go_sem, rq1, rq2, rq3, rq4, rq5, rq6, rq7, a40, a41, a42, hoo] at n5 a50 a51 a52
  have L5 : h.le g5 := H2.le.trans (by repeat (first | exact L4 | exact H2.le.refl _ | apply le_push | refine le_set ?_ (by omega))) l5
  repeat (first | rw [kz_o] | rw [kz_r0] | simp -dsimp -implicitDefEqProofs only [go_sem, rq1, rq2, rq3, rq4, rq5, rq6, rq7, a50, a51, a52, ce3, ce4, ce5])
  refine wz_intro (toIntS_new  (by omega)) ?_
  rintro s6 g6 ⟨l6, b6, o6, bl6⟩
  have ce6 := OT.cell o6
  have n6 := l6.n
  have a60 := l6.2 (hn h .mk) (by simp only [hn_push, hn_set]; omega)
  have a61 := l6.2 (hn h .mk + 1) (by simp only [hn_push, hn_set]; omega)
  have a62 := l6.2 (hn h .mk + 1 + 1) (by simp only [hn_push, hn_set]; omega)
  simp -dsimp -implicitDefEqProofs only [go_sem, rq1, rq2, rq3, rq4, rq5, rq6, rq7, a50, a51, a52, hoo] at n6 a60 a61 a62
  have L6 : h.le g6 := H2.le.trans (by repeat (first | exact L5 | exact H2.le.refl _ | apply le_push | refine le_set ?_ (by omega))) l6
  repeat (first | rw [kz_o] | rw [kz_r0] | simp -dsimp -implicitDefEqProofs only [go_sem, rq1, rq2, rq3, rq4, rq5, rq6, rq7, a60, a61, a62, ce3, ce4, ce5, ce6])
  refine wz_intro (toMatrix_ok (F := fun j => F (j + 7)) (by omega)) ?_
  rintro _ g7 ⟨l7, ys7, b7, rfl, o7, bl7⟩
  obtain ⟨b7_1, s8, b7_2, s9, rfl, hb7, o7_1, o7_2⟩ := invMatrix o7
  have ce8 := OT.cell o7_1
  have ce9 := OT.cell o7_2
  have n7 := l7.n
  have a70 := l7.2 (hn h .mk) (by simp only [hn_push, hn_set]; omega)
  have a71 := l7.2 (hn h .mk + 1) (by simp only [hn_push, hn_set]; omega)
  have a72 := l7.2 (hn h .mk + 1 + 1) (by simp only [hn_push, hn_set]; omega)
  simp -dsimp -implicitDefEqProofs only [go_sem, rq1, rq2, rq3, rq4, rq5, rq6, rq7, a60, a61, a62, hoo] at n7 a70 a71 a72
  have L7 : h.le g7 := H2.le.trans (by repeat (first | exact L6 | exact H2.le.refl _ | apply le_push | refine le_set ?_ (by omega))) l7
  repeat (first | rw [kz_o] | rw [kz_r0] | simp -dsimp -implicitDefEqProofs only [go_sem, rq1, rq2, rq3, rq4, rq5, rq6, rq7, a70, a71, a72, ce3, ce4, ce5, ce6, ce8, ce9])
  refine wz_intro (toTurns_ok (F := fun j => F (j + 12)) (by omega)) ?_
  rintro _ g8 ⟨l8, ys8, b8, rfl, o8, bl8⟩
  obtain ⟨b8_0, s12, b8_1, s13, rfl, hb8, o8_0, o8_1⟩ := invTurns o8
  have ce12 := OT.cell o8_0
  have ce13 := OT.cell o8_1
  have n8 := l8.n
  have a80 := l8.2 (hn h .mk) (by simp only [hn_push, hn_set]; omega)
  have a81 := l8.2 (hn h .mk + 1) (by simp only [hn_push, hn_set]; omega)
  have a82 := l8.2 (hn h .mk + 1 + 1) (by simp only [hn_push, hn_set]; omega)
  simp -dsimp -implicitDefEqProofs only [go_sem, rq1, rq2, rq3, rq4, rq5, rq6, rq7, a70, a71, a72, hoo] at n8 a80 a81 a82
  have L8 : h.le g8 := H2.le.trans (by repeat (first | exact L7 | exact H2.le.refl _ | apply le_push | refine le_set ?_ (by omega))) l8
  repeat (first | rw [kz_o] | rw [kz_r0] | simp -dsimp -implicitDefEqProofs only [go_sem, rq1, rq2, rq3, rq4, rq5, rq6, rq7, a80, a81, a82, ce3, ce4, ce5, ce6, ce8, ce9, ce12, ce13])
  refine ⟨by repeat (first | exact L8 | refine le_set ?_ (by omega)), _, b3 ++ (b4 ++ (b5 ++ (b6 ++ (b7_1 ++ (b7_2 ++ (b8_0 ++ b8_1)))))), rfl, outModel (c := c) ?_ ?_ ?_ ?_ ?_ ?_ ?_ ?_, ?_⟩
  · refine OT.frame o3 fun b hb => ?_
    have hbl := bl3.2 b (hb)
    simp only [hn_push, hn_set] at hbl
    simp only [H2.set]
    rw [if_neg (by omega), if_neg (by omega)]
    rw [show g8.get b = _ from l8.2 b (by simp only [hn_set]; omega)]
    simp only [hg, H2.set]
    rw [if_neg (by omega)]
    rw [show g7.get b = _ from l7.2 b (by simp only [hn_set]; omega)]
    simp only [hg, H2.set]
    rw [if_neg (by omega)]
    rw [show g6.get b = _ from l6.2 b (by simp only [hn_set]; omega)]
    simp only [hg, H2.set]
    rw [if_neg (by omega)]
    rw [show g5.get b = _ from l5.2 b (by simp only [hn_set]; omega)]
    simp only [hg, H2.set]
    rw [if_neg (by omega)]
    rw [show g4.get b = _ from l4.2 b (by simp only [hn_set]; omega)]
    simp only [hg, H2.set]
    rw [if_neg (by omega)]
  · refine OT.frame o4 fun b hb => ?_
    have hbl := bl4.2 b (hb)
    simp only [hn_push, hn_set] at hbl
    simp only [H2.set]
    rw [if_neg (by omega), if_neg (by omega)]
    rw [show g8.get b = _ from l8.2 b (by simp only [hn_set]; omega)]
    simp only [hg, H2.set]
    rw [if_neg (by omega)]
    rw [show g7.get b = _ from l7.2 b (by simp only [hn_set]; omega)]
    simp only [hg, H2.set]
    rw [if_neg (by omega)]
    rw [show g6.get b = _ from l6.2 b (by simp only [hn_set]; omega)]
    simp only [hg, H2.set]
    rw [if_neg (by omega)]
    rw [show g5.get b = _ from l5.2 b (by simp only [hn_set]; omega)]
    simp only [hg, H2.set]
    rw [if_neg (by omega)]
  · refine OT.frame o5 fun b hb => ?_
    have hbl := bl5.2 b (hb)
    simp only [hn_push, hn_set] at hbl
    simp only [H2.set]
    rw [if_neg (by omega), if_neg (by omega)]
    rw [show g8.get b = _ from l8.2 b (by simp only [hn_set]; omega)]
    simp only [hg, H2.set]
    rw [if_neg (by omega)]
    rw [show g7.get b = _ from l7.2 b (by simp only [hn_set]; omega)]
    simp only [hg, H2.set]
    rw [if_neg (by omega)]
    rw [show g6.get b = _ from l6.2 b (by simp only [hn_set]; omega)]
    simp only [hg, H2.set]
    rw [if_neg (by omega)]
  · refine OT.frame o6 fun b hb => ?_
    have hbl := bl6.2 b (hb)
    simp only [hn_push, hn_set] at hbl
    simp only [H2.set]
    rw [if_neg (by omega), if_neg (by omega)]
    rw [show g8.get b = _ from l8.2 b (by simp only [hn_set]; omega)]
    simp only [hg, H2.set]
    rw [if_neg (by omega)]
    rw [show g7.get b = _ from l7.2 b (by simp only [hn_set]; omega)]
    simp only [hg, H2.set]
    rw [if_neg (by omega)]
  · refine OT.frame o7_1 fun b hb => ?_
    have hbl := bl7.2 b (by rw [hb7]; simp [hb])
    simp only [hn_push, hn_set] at hbl
    simp only [H2.set]
    rw [if_neg (by omega), if_neg (by omega)]
    rw [show g8.get b = _ from l8.2 b (by simp only [hn_set]; omega)]
    simp only [hg, H2.set]
    rw [if_neg (by omega)]
  · refine OT.frame o7_2 fun b hb => ?_
    have hbl := bl7.2 b (by rw [hb7]; simp [hb])
    simp only [hn_push, hn_set] at hbl
    simp only [H2.set]
    rw [if_neg (by omega), if_neg (by omega)]
    rw [show g8.get b = _ from l8.2 b (by simp only [hn_set]; omega)]
    simp only [hg, H2.set]
    rw [if_neg (by omega)]
  · refine OT.frame o8_0 fun b hb => ?_
    have hbl := bl8.2 b (by rw [hb8]; simp [hb])
    simp only [hn_push, hn_set] at hbl
    simp only [H2.set]
    rw [if_neg (by omega), if_neg (by omega)]
  · refine OT.frame o8_1 fun b hb => ?_
    have hbl := bl8.2 b (by rw [hb8]; simp [hb])
    simp only [hn_push, hn_set] at hbl
    simp only [H2.set]
    rw [if_neg (by omega), if_neg (by omega)]
  · simp only [hn_set]
    have m3 := bl3
    simp only [hn_push, hn_set] at m3
    have m4 := bl4
    simp only [hn_push, hn_set] at m4
    have m5 := bl5
    simp only [hn_push, hn_set] at m5
    have m6 := bl6
    simp only [hn_push, hn_set] at m6
    have m7 := bl7
    simp only [hn_push, hn_set] at m7
    rw [hb7] at m7
    have m8 := bl8
    simp only [hn_push, hn_set] at m8
    rw [hb8] at m8
    have := ((Bl.append m3 (Bl.append m4 (Bl.append m5 (Bl.append m6 (Bl.append m7 m8 (by omega) (by omega)) (by omega) (by omega)) (by omega) (by omega)) (by omega) (by omega)) (by omega) (by omega))).wide (N' := hn h .mk) (by omega) (Nat.le_refl _)
    simpa only [List.append_assoc] using this
end Go.Bi
end
section
set_option linter.unusedSimpArgs false
set_option linter.unusedVariables false
set_option maxRecDepth 20000
namespace Go.Bi
open Go.Proofs
open Go.Ai (plainS)
variable {W0 : World} {P : Program}
inductive Ch {α : Type} (H : α → Int → Int → Prop) : Int → List α → Int → Prop
  | nil {k : Int} : Ch H k [] k
  | cons {e : α} {es : List α} {a b c : Int} : H e a b → 0 ≤ b → Ch H b es c → Ch H a (e :: es) c
theorem Ch.snoc {α : Type} {H : α → Int → Int → Prop} {e : α} : ∀ {es : List α} {a b c : Int}, Ch H a es b → H e b c → 0 ≤ c → Ch H a (es ++ [e]) c
  | [], _, _, _, .nil, h, h0 => .cons h h0 .nil
  | _ :: _, _, _, _, .cons h1 h2 h3, h, h0 => .cons h1 h2 (h3.snoc h h0)
theorem Ch.step {α : Type} [Inhabited α] {H : α → Int → Int → Prop} {es : List α} {i : Nat} {a c : Int} (h : Ch H a (es.drop i) c) (hi : i < es.length) : ∃ b, H (es.getD i default) a b ∧ 0 ≤ b ∧ Ch H b (es.drop (i + 1)) c := by
  rw [List.drop_eq_getElem_cons hi] at h
  cases h with
  | cons h1 h2 h3 =>
    refine ⟨_, ?_, h2, h3⟩
    rw [List.getD_eq_getElem?_getD, List.getElem?_eq_getElem hi]; exact h1
theorem Ch.done {α : Type} {H : α → Int → Int → Prop} {es : List α} {i : Nat} {a c : Int} (h : Ch H a (es.drop i) c) (hi : es.length ≤ i) : a = c := by
  rw [List.drop_of_length_le hi] at h
  cases h; rfl
theorem OT.inv {g : H2} {bs : List Nat} {x : X} {z : Nat} {es : List (List T)} (o : OT g bs x (.l z es)) :
    (bs = [] ∧ x = .raw (.slice none 0 0) ∧ es = []) ∨ ∃ b bs' cs, bs = b :: bs' ∧ x = .raw (.slice (some ⟨b, 0, none⟩) es.length es.length) ∧ g.get b = some ⟨z, cs⟩ ∧ cs.length = es.length * z ∧ (∀ e ∈ es, e.length = z) ∧ OTs g bs' cs es.flatten := by
  generalize ht : T.l z es = t at o
  cases o with
  | raw => cases ht
  | nil => simp only [T.l.injEq] at ht; obtain ⟨rfl, rfl⟩ := ht; exact .inl ⟨rfl, rfl, rfl⟩
  | row h1 h2 h3 h4 h5 =>
    simp only [T.l.injEq] at ht
    obtain ⟨rfl, rfl⟩ := ht
    subst h3
    exact .inr ⟨_, _, _, rfl, rfl, h1, h2, h4, h5⟩
structure Cur2 (h0 : H2) (b z : Nat) (bs : List Nat) (g : H2) (p : Nat) (A B : List X) (bA bB : List Nat) (TA TB : List T) : Prop where
  blk : hg g b .mk = some ⟨z, A ++ B⟩
  len : A.length = p
  all : bs = bA ++ bB
  oA : OTs g bA A TA
  oB : OTs g bB B TB
  nd : (b :: bs).Nodup
  bd : ∀ x ∈ b :: bs, x < hn h0 .mk
  le : hn h0 .mk ≤ hn g .mk
  fr : ∀ x, x < hn h0 .mk → x ≠ b → x ∉ bs → g.get x = h0.get x
def CurA (h0 : H2) (b z : Nat) (bs : List Nat) (g : H2) (p : Nat) (TA TB : List T) : Prop := ∃ A B bA bB, Cur2 h0 b z bs g p A B bA bB TA TB
theorem Cur2.lt {h0 g : H2} {b z p : Nat} {bs bA bB : List Nat} {A B : List X} {TA TB : List T} (c : Cur2 h0 b z bs g p A B bA bB TA TB) : b < hn g .mk := Nat.lt_of_lt_of_le (c.bd b (by simp)) c.le
theorem ap_mid {A B : List X} {y : X} : (A ++ y :: B)[A.length]? = some y := by simp
theorem wrt_mid {A B : List X} {y v : X} : wrtL (A ++ y :: B) A.length [v] = some ((A ++ [v]) ++ B) := by
  simp only [wrtL, List.length_cons, List.length_nil, List.length_append]
  rw [if_pos (by omega)]
  simp
theorem set_same {g : H2} {b z : Nat} {cs cs' : List X} (h : hg (g.set b ⟨z, cs⟩) b .mk = some ⟨z, cs'⟩) : cs = cs' := by
  rw [hg_set] at h
  simp [hk] at h
  exact h
theorem CurA.put {h0 g : H2} {b z p : Nat} {bs : List Nat} {TA TB : List T} {v : Value} (c : CurA h0 b z bs g p TA (.v v :: TB)) :
    ∃ cs, hg g b .mk = some ⟨z, cs⟩ ∧ b < hn g .mk ∧ (∃ w, cs[p]? = some (.raw w)) ∧ ∀ w : Value, plainS w = true → ∃ cs', wrtL cs p [.raw w] = some cs' ∧ CurA h0 b z bs (g.set b ⟨z, cs'⟩) (p + 1) (TA ++ [.v w]) TB := by
  obtain ⟨A, B, bA, bB, c⟩ := c
  obtain ⟨ys, rfl, oB⟩ := OTs.headv c.oB
  have hl := c.len
  subst hl
  refine ⟨_, c.blk, c.lt, ⟨_, ap_mid⟩, fun w hw => ⟨_, wrt_mid, A ++ [.raw w], ys, bA, bB, ?_⟩⟩
  have hb : b ∉ bs := (List.nodup_cons.1 c.nd).1
  have hbA : ∀ x ∈ bA, x ≠ b := fun x hx e => hb (by rw [c.all, ← e]; simp [hx])
  have hbB : ∀ x ∈ bB, x ≠ b := fun x hx e => hb (by rw [c.all, ← e]; simp [hx])
  refine ⟨?_, by simp, c.all, ?_, ?_, c.nd, c.bd, c.le, fun x h1 h2 h3 => ?_⟩
  · rw [hg_set]; simp [hk]
  · have o1 : OTs (g.set b ⟨z, (A ++ [X.raw w]) ++ ys⟩) bA A TA := c.oA.frame fun x hx => by simp only [H2.set]; rw [if_neg (hbA x hx)]
    have := o1.append (OTs.one (OT.raw (g := g.set b ⟨z, (A ++ [X.raw w]) ++ ys⟩) hw))
    simpa using this
  · exact oB.frame fun x hx => by simp only [H2.set]; rw [if_neg (hbB x hx)]
  · simp only [H2.set]; rw [if_neg h2]; exact c.fr x h1 h2 h3
theorem CurA.row {h0 g : H2} {b z p z' : Nat} {bs : List Nat} {TA TB : List T} {es : List (List T)} (c : CurA h0 b z bs g p TA (.l z' es :: TB)) :
    ∃ cs y bb, hg g b .mk = some ⟨z, cs⟩ ∧ b < hn g .mk ∧ cs[p]? = some y ∧ OT g bb y (.l z' es) ∧ Bl 0 (hn g .mk) bb ∧
      ∀ g' es', OT g' bb y (.l z' es') → hn g .mk ≤ hn g' .mk → (∀ x, x < hn g .mk → x ∉ bb → g'.get x = g.get x) → CurA h0 b z bs g' (p + 1) (TA ++ [.l z' es']) TB := by
  obtain ⟨A, B, bA, bB, c⟩ := c
  obtain ⟨bb, bR, y, ys, rfl, rfl, o, oB⟩ := OTs.head c.oB
  have hl := c.len
  subst hl
  have hnd := List.nodup_cons.1 c.nd
  rw [c.all] at hnd
  have h1 := List.nodup_append.1 hnd.2
  have h2 := List.nodup_append.1 h1.2.1
  have hlt : ∀ x ∈ bs, x < hn g .mk := fun x hx => Nat.lt_of_lt_of_le (c.bd x (by simp [hx])) c.le
  have hm : ∀ x ∈ bA ++ (bb ++ bR), x < hn g .mk := fun x hx => hlt x (by rw [c.all]; exact hx)
  refine ⟨_, y, bb, c.blk, c.lt, ap_mid, o, ⟨h2.1, fun x hx => ⟨Nat.zero_le _, hm x (by simp [hx])⟩⟩, fun g' es' o' hn' fr' => ⟨A ++ [y], ys, bA ++ bb, bR, ?_⟩⟩
  have kb : g'.get b = g.get b := fr' b c.lt fun hx => hnd.1 (by simp [hx])
  refine ⟨?_, by simp, by rw [c.all, List.append_assoc], ?_, ?_, c.nd, c.bd, Nat.le_trans c.le hn', fun x q1 q2 q3 => ?_⟩
  · show g'.get b = _
    rw [kb]
    have := c.blk
    rw [List.append_assoc]
    exact this
  · have o1 : OTs g' bA A TA := c.oA.frame fun x hx => fr' x (hm x (by simp [hx])) fun hx' => h1.2.2 x hx x (by simp [hx']) rfl
    have := o1.append (OTs.one o')
    simpa using this
  · exact oB.frame fun x hx => fr' x (hm x (by simp [hx])) fun hx' => h2.2.2 x hx' x hx rfl
  · rw [fr' x (Nat.lt_of_lt_of_le q1 c.le) fun hx => q3 (by rw [c.all]; simp [hx])]
    exact c.fr x q1 q2 q3
theorem CurA.cast {h0 g : H2} {b z p p' : Nat} {bs : List Nat} {TA TB TA' TB' : List T} (c : CurA h0 b z bs g p TA TB) (hp : p = p') (h1 : TA = TA') (h2 : TB = TB') : CurA h0 b z bs g p' TA' TB' := by
  subst hp; subst h1; subst h2; exact c
theorem CurA.start {h : H2} {N b z : Nat} {bs' : List Nat} {cs : List X} {ts : List T} (hb : h.get b = some ⟨z, cs⟩) (o : OTs h bs' cs ts) (bl : Bl N (hn h .mk) (b :: bs')) : CurA h b z bs' h 0 [] ts :=
  ⟨[], cs, [], bs', by exact hb, rfl, rfl, .nil, o, bl.1, fun x hx => (bl.2 x hx).2, Nat.le_refl _, fun _ _ _ _ => rfl⟩
theorem CurA.full {h0 g : H2} {b z p : Nat} {bs : List Nat} {es : List (List T)} (c : CurA h0 b z bs g p es.flatten []) (hp : p = es.length * z) (hz : ∀ e ∈ es, e.length = z) :
    OT g (b :: bs) (.raw (.slice (some ⟨b, 0, none⟩) es.length es.length)) (.l z es) ∧ hn h0 .mk ≤ hn g .mk ∧ ∀ x, x < hn h0 .mk → x ∉ b :: bs → g.get x = h0.get x := by
  obtain ⟨A, B, bA, bB, c⟩ := c
  obtain ⟨rfl, rfl⟩ := OTs.tail0 c.oB
  have hall := c.all
  rw [List.append_nil] at hall
  subst hall
  refine ⟨.row (by have := c.blk; rw [List.append_nil] at this; exact this) (by rw [c.len, hp]) rfl hz c.oA, c.le, fun x h1 h2 => c.fr x h1 (fun e => h2 (by simp [e])) fun hx => h2 (by simp [hx])⟩
end Go.Bi
end
section
set_option linter.unusedSimpArgs false
set_option linter.unusedVariables false
set_option maxRecDepth 20000
namespace Go.Bi
open Go.Proofs
open Go.Ai (wrap_i64 wrap_u8)
variable {W0 : World} {P : Program}
set_option maxHeartbeats 4000000
def HhIntS (W0 : World) (c : List Int) (a b : Int) : Prop := ∀ f g, PW Tryz.prog W0 177 [.sl f 1 (ints c), .raw (.int .i64 a)] g (fun y => y = .raw (.int .i64 b))
def HhIntSS (W0 : World) (c : List (List Int)) (a b : Int) : Prop := ∀ f g, PW Tryz.prog W0 175 [.sl f 1 (rIntSS c), .raw (.int .i64 a)] g (fun y => y = .raw (.int .i64 b))
theorem heldIntSS_ch {c : List (List Int)} {k0 k1 : Int} (h : Ch (HhIntS W0) k0 c k1) (hl : c.length ≤ 4611686018427387904) : HhIntSS W0 c k0 k1 := by
  intro f g
  refine PW.scalar ?_
  refine start (P := Tryz.prog) [[0, 1], [0, 1], [0, 1, 5], [0, 1, 5], [0, 1, 5], [0, 1, 5], [], [1]] (by kernel_rfl) Tryz.func175 rfl (by decide) (by decide +kernel) (rs := [.tmp 4]) rfl rfl (Nat.le_of_ble_eq_true rfl) ?_
  intro wf
  repeat (first | rw [kz_o] | rw [kz_r0] | simp -dsimp -implicitDefEqProofs only [go_sem, rq1, rq2, rq3, rq4, rq5, rq6, rq7])
  refine lz_keep [0] (fun m e h' => ∃ (i : Nat) (a : Int), g.le h' ∧ look e 5 .mk = .raw (.int .i64 (i : Nat)) ∧ look e 1 .mk = .raw (.int .i64 a) ∧ m + i = c.length ∧ Ch (HhIntS W0) a (c.drop i) k1) c.length ?_ ?_
  · exact ⟨0, k0, H2.le.refl _, by simp -dsimp -implicitDefEqProofs only [go_sem, rq1, rq2, rq3, rq4, rq5, rq6, rq7], by simp -dsimp -implicitDefEqProofs only [go_sem, rq1, rq2, rq3, rq4, rq5, rq6, rq7], by omega, h⟩
  rintro m e h' hks ⟨i, a, hle, e5, e1, hm, hc⟩
  simp -dsimp -implicitDefEqProofs only [go_sem, rq1, rq2, rq3, rq4, rq5, rq6, rq7] at hks
  by_cases q1 : (i : Int) < (c.length : Int)
  · have q2 : i < c.length := by omega
    obtain ⟨b, hb, h0, hc'⟩ := hc.step q2
    have w1 : IntKind.i64.wrap ((i : Int) + 1) = ((i + 1 : Nat) : Int) := wrap_succ q2 (by omega)
    have q3 : ¬ b < 0 := by omega
    repeat (first | rw [kz_o] | rw [kz_r0] | simp -dsimp -implicitDefEqProofs only [go_sem, rq1, rq2, rq3, rq4, rq5, rq6, rq7, hks, e5, e1, q1, q2])
    refine pw_intro (hb _ _) ?_
    rintro _ n hn1 rfl
    repeat (first | rw [kz_o] | rw [kz_r0] | simp -dsimp -implicitDefEqProofs only [go_sem, rq1, rq2, rq3, rq4, rq5, rq6, rq7, hks, e5, q3, w1])
    exact nx_keep (m - 1) (by omega) (by simp -dsimp -implicitDefEqProofs only [go_sem, rq1, rq2, rq3, rq4, rq5, rq6, rq7, hks]) ⟨i + 1, b, le_up hle hn1, by simp -dsimp -implicitDefEqProofs only [go_sem, rq1, rq2, rq3, rq4, rq5, rq6, rq7, w1], by simp -dsimp -implicitDefEqProofs only [go_sem, rq1, rq2, rq3, rq4, rq5, rq6, rq7], by omega, hc'⟩
  · repeat (first | rw [kz_o] | rw [kz_r0] | simp -dsimp -implicitDefEqProofs only [go_sem, rq1, rq2, rq3, rq4, rq5, rq6, rq7, hks, e5, e1, q1])
    exact ⟨hle, ⟨_, rfl⟩, by rw [hc.done (by omega)]⟩
theorem markIntSS_tree {N : Nat} {bs : List Nat} {v : X} {zs : List (List Int)} {h : H2} {k0 : Int} (o : OT h bs v (.l 1 (rIntSS zs))) (bl : Bl N (hn h .mk) bs) (hk : 0 ≤ k0 ∧ k0 + 64 * szIntSS zs ≤ 4611686018427387904) :
    WC2 Tryz.prog W0 88 [v, .raw (.int .i64 k0)] h (fun r h' => ∃ (k1 : Int) (c' : List (List Int)), r = .raw (.int .i64 k1) ∧ k0 ≤ k1 ∧ k1 ≤ k0 + 64 * szIntSS zs ∧ OT h' bs v (.l 1 (rIntSS c')) ∧ HhIntSS W0 c' k0 k1 ∧ hn h .mk ≤ hn h' .mk ∧ ∀ b, b < hn h .mk → b ∉ bs → h'.get b = h.get b) := by
  have hE : ∀ a, (eIntS a).length = 1 := fun a => rfl
  have hsz : (zs.length : Int) ≤ szIntSS zs := by unfold szIntSS; omega
  rcases o.inv with ⟨rfl, rfl, he⟩ | ⟨b, bs', cs, rfl, rfl, hb, hcs, hz, oc⟩
  · have hzs : zs = [] := by cases zs <;> simp_all [rIntSS]
    subst hzs
    refine start (P := Tryz.prog) [[0, 1], [0, 1], [0, 1, 5], [0, 1, 5], [0, 1, 5], [1]] (by kernel_rfl) Tryz.func88 rfl (by decide) (by decide +kernel) (rs := [.tmp 4]) rfl rfl (Nat.le_of_ble_eq_true rfl) ?_
    intro wf
    repeat (first | rw [kz_o] | rw [kz_r0] | simp -dsimp -implicitDefEqProofs only [go_sem, rq1, rq2, rq3, rq4, rq5, rq6, rq7])
    refine lz_keep [0] (fun m e h' => h' = h ∧ look e 5 .mk = .raw (.int .i64 0) ∧ look e 1 .mk = .raw (.int .i64 k0)) 0 ?_ ?_
    · exact ⟨rfl, by simp -dsimp -implicitDefEqProofs only [go_sem, rq1, rq2, rq3, rq4, rq5, rq6, rq7], by simp -dsimp -implicitDefEqProofs only [go_sem, rq1, rq2, rq3, rq4, rq5, rq6, rq7]⟩
    rintro m e h' hks ⟨rfl, e5, e1⟩
    simp -dsimp -implicitDefEqProofs only [go_sem, rq1, rq2, rq3, rq4, rq5, rq6, rq7] at hks
    have q1 : ¬ ((0 : Int) < ((0 : Nat) : Int)) := by decide
    repeat (first | rw [kz_o] | rw [kz_r0] | simp -dsimp -implicitDefEqProofs only [go_sem, rq1, rq2, rq3, rq4, rq5, rq6, rq7, hks, e5, e1, q1])
    exact ⟨k0, [], rfl, by omega, by omega, o, heldIntSS_ch .nil (by decide), Nat.le_refl _, fun _ _ _ => rfl⟩
  · have hlen : (rIntSS zs).length = zs.length := rIntSS_len
    rw [hlen]
    refine start (P := Tryz.prog) [[0, 1], [0, 1], [0, 1, 5], [0, 1, 5], [0, 1, 5], [1]] (by kernel_rfl) Tryz.func88 rfl (by decide) (by decide +kernel) (rs := [.tmp 4]) rfl rfl (Nat.le_of_ble_eq_true rfl) ?_
    intro wf
    repeat (first | rw [kz_o] | rw [kz_r0] | simp -dsimp -implicitDefEqProofs only [go_sem, rq1, rq2, rq3, rq4, rq5, rq6, rq7])
    refine lz_keep [0] (fun m e h' => ∃ (i : Nat) (a : Int) (c' : List (List Int)), look e 5 .mk = .raw (.int .i64 (i : Nat)) ∧ look e 1 .mk = .raw (.int .i64 a) ∧ m + i = zs.length ∧ c'.length = i ∧ CurA h b 1 bs' h' i ((c'.map eIntS).flatten) (((zs.drop i).map eIntS).flatten) ∧ Ch (HhIntS W0) k0 c' a ∧ k0 ≤ a ∧ a ≤ k0 + 64 * (i + sumN szIntS (zs.take i))) zs.length ?_ ?_
    · exact ⟨0, k0, [], by simp -dsimp -implicitDefEqProofs only [go_sem, rq1, rq2, rq3, rq4, rq5, rq6, rq7], by simp -dsimp -implicitDefEqProofs only [go_sem, rq1, rq2, rq3, rq4, rq5, rq6, rq7], by omega, rfl, CurA.start hb oc bl, .nil, by omega, by omega⟩
    rintro m e h' hks ⟨i, a, c', e5, e1, hm, hcl, cur, ch, lo, hi⟩
    simp -dsimp -implicitDefEqProofs only [go_sem, rq1, rq2, rq3, rq4, rq5, rq6, rq7] at hks
    by_cases q1 : (i : Int) < (zs.length : Int)
    · have q2 : i < zs.length := by omega
      have hd : zs.drop i = zs.getD i default :: zs.drop (i + 1) := by rw [List.drop_eq_getElem_cons q2, List.getD_eq_getElem?_getD, List.getElem?_eq_getElem q2]; rfl
      have hst : sumN szIntS (zs.take (i + 1)) = sumN szIntS (zs.take i) + (zs.getD i default).length := sumN_take (f := szIntS) q2
      have hle : sumN szIntS (zs.take (i + 1)) ≤ sumN szIntS zs := by
        have := sumN_append (f := szIntS) (l := zs.take (i + 1)) (m := zs.drop (i + 1))
        rw [List.take_append_drop] at this
        omega
      have hsz2 : szIntSS zs = zs.length + sumN szIntS zs := rfl
      have w1 : IntKind.i64.wrap ((i : Int) + 1) = ((i + 1 : Nat) : Int) := wrap_succ q2 (by omega)
      obtain ⟨cs2, y, bb, hblk, hblt, hget, oy, bly, fin⟩ := (cur.cast (TB' := .l 1 (ints (zs.getD i default)) :: ((zs.drop (i + 1)).map eIntS).flatten) rfl rfl (by rw [hd]; rfl)).row
      have hy := OT.cell oy
      have hi2 : (0 : Int) ≤ (i : Int) ∧ (i : Int) < (zs.length : Int) := by omega
      repeat (first | rw [kz_o] | rw [kz_r0] | simp -dsimp -implicitDefEqProofs only [go_sem, rq1, rq2, rq3, rq4, rq5, rq6, rq7, hks, e5, e1, q1, q2, hi2, hblk, hget, hy, nat_nn, Int.toNat_natCast])
      refine wz_intro (markIntS_tree oy bly ⟨by omega, by omega⟩) ?_
      rintro _ g' ⟨a', z', rfl, lo', hi', o', hh, nn, fr⟩
      have cur' := fin g' _ o' nn fr
      repeat (first | rw [kz_o] | rw [kz_r0] | simp -dsimp -implicitDefEqProofs only [go_sem, rq1, rq2, rq3, rq4, rq5, rq6, rq7, hks, e5, w1])
      refine nx_keep (m - 1) (by omega) (by simp -dsimp -implicitDefEqProofs only [go_sem, rq1, rq2, rq3, rq4, rq5, rq6, rq7, hks]) ⟨i + 1, a', c' ++ [z'], by simp -dsimp -implicitDefEqProofs only [go_sem, rq1, rq2, rq3, rq4, rq5, rq6, rq7, w1], by simp -dsimp -implicitDefEqProofs only [go_sem, rq1, rq2, rq3, rq4, rq5, rq6, rq7], by omega, by simp [hcl], cur'.cast rfl (by simp [eIntS]) rfl, ch.snoc hh (by omega), by omega, by omega⟩
    · repeat (first | rw [kz_o] | rw [kz_r0] | simp -dsimp -implicitDefEqProofs only [go_sem, rq1, rq2, rq3, rq4, rq5, rq6, rq7, hks, e5, e1, q1])
      have hi3 : i = zs.length := by omega
      rw [hi3] at cur hi
      rw [List.take_length] at hi
      rw [List.drop_length] at cur
      have hcl2 : (rIntSS c').length = zs.length := by rw [rIntSS_len, hcl, hi3]
      obtain ⟨f1, f2, f3⟩ := CurA.full (es := rIntSS c') cur (by rw [hcl2]; omega) (fun e he => by
        obtain ⟨x, _, rfl⟩ := List.mem_map.1 he
        exact hE x)
      rw [hcl2] at f1
      exact ⟨a, c', rfl, lo, hi, f1, heldIntSS_ch ch (by rw [hcl]; omega), f2, f3⟩
end Go.Bi
end
section
set_option linter.unusedSimpArgs false
set_option linter.unusedVariables false
set_option maxRecDepth 20000
namespace Go.Bi
open Go.Proofs
open Go.Ai (wrap_i64 wrap_u8)
variable {W0 : World} {P : Program}
set_option maxHeartbeats 4000000
def HeMerge (W0 : World) (e : LMerge) (a b : Int) : Prop := e.a = a ∧ e.b = a + 1 ∧ b = a + 1 + 1 ∧ 0 ≤ a ∧ b ≤ 4611686018427387904
def HhMergeS (W0 : World) (c : List LMerge) (a b : Int) : Prop := ∀ f g, PW Tryz.prog W0 174 [.sl f 2 (rMergeS c), .raw (.int .i64 a)] g (fun y => y = .raw (.int .i64 b))
theorem heldMergeS_ch {c : List LMerge} {k0 k1 : Int} (h : Ch (HeMerge W0) k0 c k1) (hl : c.length ≤ 4611686018427387904) : HhMergeS W0 c k0 k1 := by
  intro f g
  refine PW.scalar ?_
  refine start (P := Tryz.prog) [[0, 1], [0, 1], [0, 1, 5], [0, 1, 5], [0, 1, 5], [], [0, 1, 5], [0, 1, 5], [], [0, 1, 5], [1]] (by kernel_rfl) Tryz.func174 rfl (by decide) (by decide +kernel) (rs := [.tmp 4]) rfl rfl (Nat.le_of_ble_eq_true rfl) ?_
  intro wf
  repeat (first | rw [kz_o] | rw [kz_r0] | simp -dsimp -implicitDefEqProofs only [go_sem, rq1, rq2, rq3, rq4, rq5, rq6, rq7])
  refine lz_keep [0] (fun m e h' => ∃ (i : Nat) (a : Int), g.le h' ∧ look e 5 .mk = .raw (.int .i64 (i : Nat)) ∧ look e 1 .mk = .raw (.int .i64 a) ∧ m + i = c.length ∧ Ch (HeMerge W0) a (c.drop i) k1) c.length ?_ ?_
  · exact ⟨0, k0, H2.le.refl _, by simp -dsimp -implicitDefEqProofs only [go_sem, rq1, rq2, rq3, rq4, rq5, rq6, rq7], by simp -dsimp -implicitDefEqProofs only [go_sem, rq1, rq2, rq3, rq4, rq5, rq6, rq7], by omega, h⟩
  rintro m e h' hks ⟨i, a, hle, e5, e1, hm, hc⟩
  simp -dsimp -implicitDefEqProofs only [go_sem, rq1, rq2, rq3, rq4, rq5, rq6, rq7] at hks
  by_cases q1 : (i : Int) < (c.length : Int)
  · have q2 : i < c.length := by omega
    obtain ⟨b, hb, h0, hc'⟩ := hc.step q2
    obtain ⟨f0, f1, hbe, ha0, hbt⟩ := hb
    have w1 : IntKind.i64.wrap ((i : Int) + 1) = ((i + 1 : Nat) : Int) := wrap_succ q2 (by omega)
    have d0 : decide (¬ (c.getD i default).a = a) = false := decide_eq_false (fun h => h f0)
    have v0 : IntKind.i64.wrap (a + 1) = a + 1 := by rw [wrap_i64] <;> omega
    have d1 : decide (¬ (c.getD i default).b = a + 1) = false := decide_eq_false (fun h => h f1)
    have v1 : IntKind.i64.wrap (a + 1 + 1) = a + 1 + 1 := by rw [wrap_i64] <;> omega
    repeat (first | rw [kz_o] | rw [kz_r0] | simp -dsimp -implicitDefEqProofs only [go_sem, rq1, rq2, rq3, rq4, rq5, rq6, rq7, hks, e5, e1, q1, q2, w1, d0, v0, d1, v1])
    exact nx_keep (m - 1) (by omega) (by simp -dsimp -implicitDefEqProofs only [go_sem, rq1, rq2, rq3, rq4, rq5, rq6, rq7, hks]) ⟨i + 1, b, hle, by simp -dsimp -implicitDefEqProofs only [go_sem, rq1, rq2, rq3, rq4, rq5, rq6, rq7, w1], by simp -dsimp -implicitDefEqProofs only [go_sem, rq1, rq2, rq3, rq4, rq5, rq6, rq7, hbe], by omega, hc'⟩
  · repeat (first | rw [kz_o] | rw [kz_r0] | simp -dsimp -implicitDefEqProofs only [go_sem, rq1, rq2, rq3, rq4, rq5, rq6, rq7, hks, e5, e1, q1])
    exact ⟨hle, ⟨_, rfl⟩, by rw [hc.done (by omega)]⟩
theorem markMergeS_tree {N : Nat} {bs : List Nat} {v : X} {zs : List LMerge} {h : H2} {k0 : Int} (o : OT h bs v (.l 2 (rMergeS zs))) (bl : Bl N (hn h .mk) bs) (hk : 0 ≤ k0 ∧ k0 + 64 * szMergeS zs ≤ 4611686018427387904) :
    WC2 Tryz.prog W0 87 [v, .raw (.int .i64 k0)] h (fun r h' => ∃ (k1 : Int) (c' : List LMerge), r = .raw (.int .i64 k1) ∧ k0 ≤ k1 ∧ k1 ≤ k0 + 64 * szMergeS zs ∧ OT h' bs v (.l 2 (rMergeS c')) ∧ HhMergeS W0 c' k0 k1 ∧ hn h .mk ≤ hn h' .mk ∧ ∀ b, b < hn h .mk → b ∉ bs → h'.get b = h.get b) := by
  have hE : ∀ a, (eMerge a).length = 2 := fun a => rfl
  have hsz : (zs.length : Int) ≤ szMergeS zs := by unfold szMergeS; omega
  rcases o.inv with ⟨rfl, rfl, he⟩ | ⟨b, bs', cs, rfl, rfl, hb, hcs, hz, oc⟩
  · have hzs : zs = [] := by cases zs <;> simp_all [rMergeS]
    subst hzs
    refine start (P := Tryz.prog) [[0, 1], [0, 1], [0, 1, 5], [0, 1, 5], [0, 1, 5], [0, 1, 5], [0, 1, 5], [0, 1, 5], [1]] (by kernel_rfl) Tryz.func87 rfl (by decide) (by decide +kernel) (rs := [.tmp 4]) rfl rfl (Nat.le_of_ble_eq_true rfl) ?_
    intro wf
    repeat (first | rw [kz_o] | rw [kz_r0] | simp -dsimp -implicitDefEqProofs only [go_sem, rq1, rq2, rq3, rq4, rq5, rq6, rq7])
    refine lz_keep [0] (fun m e h' => h' = h ∧ look e 5 .mk = .raw (.int .i64 0) ∧ look e 1 .mk = .raw (.int .i64 k0)) 0 ?_ ?_
    · exact ⟨rfl, by simp -dsimp -implicitDefEqProofs only [go_sem, rq1, rq2, rq3, rq4, rq5, rq6, rq7], by simp -dsimp -implicitDefEqProofs only [go_sem, rq1, rq2, rq3, rq4, rq5, rq6, rq7]⟩
    rintro m e h' hks ⟨rfl, e5, e1⟩
    simp -dsimp -implicitDefEqProofs only [go_sem, rq1, rq2, rq3, rq4, rq5, rq6, rq7] at hks
    have q1 : ¬ ((0 : Int) < ((0 : Nat) : Int)) := by decide
    repeat (first | rw [kz_o] | rw [kz_r0] | simp -dsimp -implicitDefEqProofs only [go_sem, rq1, rq2, rq3, rq4, rq5, rq6, rq7, hks, e5, e1, q1])
    exact ⟨k0, [], rfl, by omega, by omega, o, heldMergeS_ch .nil (by decide), Nat.le_refl _, fun _ _ _ => rfl⟩
  · have hlen : (rMergeS zs).length = zs.length := rMergeS_len
    rw [hlen]
    refine start (P := Tryz.prog) [[0, 1], [0, 1], [0, 1, 5], [0, 1, 5], [0, 1, 5], [0, 1, 5], [0, 1, 5], [0, 1, 5], [1]] (by kernel_rfl) Tryz.func87 rfl (by decide) (by decide +kernel) (rs := [.tmp 4]) rfl rfl (Nat.le_of_ble_eq_true rfl) ?_
    intro wf
    repeat (first | rw [kz_o] | rw [kz_r0] | simp -dsimp -implicitDefEqProofs only [go_sem, rq1, rq2, rq3, rq4, rq5, rq6, rq7])
    refine lz_keep [0] (fun m e h' => ∃ (i : Nat) (a : Int) (c' : List LMerge), look e 5 .mk = .raw (.int .i64 (i : Nat)) ∧ look e 1 .mk = .raw (.int .i64 a) ∧ m + i = zs.length ∧ c'.length = i ∧ CurA h b 2 bs' h' (i * 2) ((c'.map eMerge).flatten) (((zs.drop i).map eMerge).flatten) ∧ Ch (HeMerge W0) k0 c' a ∧ k0 ≤ a ∧ a ≤ k0 + 64 * (i + sumN szMerge (zs.take i))) zs.length ?_ ?_
    · exact ⟨0, k0, [], by simp -dsimp -implicitDefEqProofs only [go_sem, rq1, rq2, rq3, rq4, rq5, rq6, rq7], by simp -dsimp -implicitDefEqProofs only [go_sem, rq1, rq2, rq3, rq4, rq5, rq6, rq7], by omega, rfl, (CurA.start hb oc bl).cast (by omega) rfl rfl, .nil, by omega, by omega⟩
    rintro m e h' hks ⟨i, a, c', e5, e1, hm, hcl, cur0, ch, lo, hi⟩
    simp -dsimp -implicitDefEqProofs only [go_sem, rq1, rq2, rq3, rq4, rq5, rq6, rq7] at hks
    by_cases q1 : (i : Int) < (zs.length : Int)
    · have q2 : i < zs.length := by omega
      have hd : zs.drop i = zs.getD i default :: zs.drop (i + 1) := by rw [List.drop_eq_getElem_cons q2, List.getD_eq_getElem?_getD, List.getElem?_eq_getElem q2]; rfl
      have hst : sumN szMerge (zs.take (i + 1)) = sumN szMerge (zs.take i) + szMerge (zs.getD i default) := sumN_take (f := szMerge) q2
      have hle : sumN szMerge (zs.take (i + 1)) ≤ sumN szMerge zs := by
        have := sumN_append (f := szMerge) (l := zs.take (i + 1)) (m := zs.drop (i + 1))
        rw [List.take_append_drop] at this
        omega
      have hsz2 : szMergeS zs = zs.length + sumN szMerge zs := rfl
      have hszE : True := trivial
      have w1 : IntKind.i64.wrap ((i : Int) + 1) = ((i + 1 : Nat) : Int) := wrap_succ q2 (by omega)
      have hi2 : (0 : Int) ≤ (i : Int) ∧ (i : Int) < (zs.length : Int) := by omega
      replace cur0 := cur0.cast (TB' := [.v (.int .i64 (zs.getD i default).a), .v (.int .i64 (zs.getD i default).b)] ++ ((zs.drop (i + 1)).map eMerge).flatten) rfl rfl (by rw [hd]; rfl)
      simp only [List.cons_append, List.nil_append] at cur0
      obtain ⟨cs0, hblk0, hlt0, ⟨_, hget0⟩, hput0⟩ := cur0.put
      obtain ⟨cw0, hw0, cur1⟩ := hput0 (.int .i64 (a)) rfl
      try simp only [set_set] at cur1
      have v0 : IntKind.i64.wrap (a + 1) = a + 1 := by rw [wrap_i64] <;> omega
      obtain ⟨cs1, hblk1, hlt1, ⟨_, hget1⟩, hput1⟩ := cur1.put
      obtain ⟨cw1, hw1, cur2⟩ := hput1 (.int .i64 (a + 1)) rfl
      have es1 := set_same hblk1
      subst es1
      try simp only [set_set] at cur2
      have v1 : IntKind.i64.wrap (a + 1 + 1) = a + 1 + 1 := by rw [wrap_i64] <;> omega
      repeat (first | rw [kz_o] | rw [kz_r0] | simp -dsimp -implicitDefEqProofs only [go_sem, rq1, rq2, rq3, rq4, rq5, rq6, rq7, hks, e5, e1, q1, q2, hi2, nat_nn, Int.toNat_natCast, hoo, w1, hblk0, hw0, v0, hblk1, hw1, v1])
      refine nx_keep (m - 1) (by omega) (by simp -dsimp -implicitDefEqProofs only [go_sem, rq1, rq2, rq3, rq4, rq5, rq6, rq7, hks]) ⟨i + 1, a + 1 + 1, c' ++ [(⟨a, a + 1⟩ : LMerge)], by simp -dsimp -implicitDefEqProofs only [go_sem, rq1, rq2, rq3, rq4, rq5, rq6, rq7, w1], by simp -dsimp -implicitDefEqProofs only [go_sem, rq1, rq2, rq3, rq4, rq5, rq6, rq7], by omega, by simp [hcl], cur2.cast (by omega) (by simp [eMerge, List.append_assoc]) rfl, ch.snoc ⟨rfl, rfl, rfl, by omega, by omega⟩ (by omega), by omega, by omega⟩
    · repeat (first | rw [kz_o] | rw [kz_r0] | simp -dsimp -implicitDefEqProofs only [go_sem, rq1, rq2, rq3, rq4, rq5, rq6, rq7, hks, e5, e1, q1])
      have hi3 : i = zs.length := by omega
      rw [hi3] at cur0 hi
      rw [List.take_length] at hi
      rw [List.drop_length] at cur0
      have hcl2 : (rMergeS c').length = zs.length := by rw [rMergeS_len, hcl, hi3]
      obtain ⟨f1, f2, f3⟩ := CurA.full (es := rMergeS c') cur0 (by rw [hcl2]) (fun e he => by
        obtain ⟨x, _, rfl⟩ := List.mem_map.1 he
        exact hE x)
      rw [hcl2] at f1
      exact ⟨a, c', rfl, lo, hi, f1, heldMergeS_ch ch (by rw [hcl]; omega), f2, f3⟩
end Go.Bi
end
