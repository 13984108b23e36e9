/- Own lemmas that the theorem of this claim needs: the abstract machine and walks of functions. -/
import Derived.Test.YtegpkkefbmcddaaGreatQnLawAH
import Derived.Laws.Bits128
set_option linter.unusedSimpArgs false
set_option linter.unusedVariables false
open Nat renaming reduceBEq → sQ1, reduceAdd → sQ2, reduceLeDiff → sQ3, reduceMul → sQ4
open Int renaming reduceLE → sQ5, reduceLT → sQ6, reduceBEq → sQ7
section
set_option maxRecDepth 20000
namespace Go.Bi
open Go.Proofs
open Go.Ai (wrap_i64)
variable {W0 : World}
def rLayerS (zs : List LLayer) : List (List T) := zs.map eLayer
theorem rLayerS_len {zs : List LLayer} : (rLayerS zs).length = zs.length := by simp [rLayerS]
theorem rLayerS_el {zs : List LLayer} {i : Nat} (hi : i < zs.length) : el (rLayerS zs) i = eLayer (zs.getD i default) := el_map hi
attribute [go_sem] rLayerS_len rLayerS_el
def szLayerS (zs : List LLayer) : Nat := zs.length + sumN szLayer zs
def fitLayerS (zs : List LLayer) : Prop := zs.length ≤ 9223372036854775807 ∧ ∀ x ∈ zs, fitLayer x
theorem szLayerS_pw {f : Adr} {zs : List LLayer} {left : Int} {h : H2} (hf : fitLayerS zs) (hl : 0 ≤ left ∧ left ≤ 1048576) : PW Tryz.prog W0 43 [.sl f 32 (rLayerS zs), .raw (.int .i64 left)] h (fun y => ∃ k : Int, y = .raw (.int .i64 k) ∧ (0 ≤ k → (szLayerS zs : Int) + k ≤ left)) := by
 obtain ⟨hf1, hf2⟩ := hf
 unfold szLayerS
 have hw : IntKind.i64.wrap (left - zs.length) = left - zs.length := by rw [wrap_i64] <;> omega
 refine PW.scalar ?_
 refine begins [[0, 1], [0, 1], [0, 1], [], [0, 1], [0, 1, 5], [0, 1, 5], [0, 1, 5], [0, 1, 5], [], [1]] Tryz.func43 rfl (rs := [.tmp 4]) rfl rfl ?_
 intro wf
 repeat (first | rw [ko] | rw [kr] | simp -dsimp -implicitDefEqProofs only [go_sem, sQ1, hw])
 refine gz_dec (fun h1 => ?_) (fun h1 => ?_)
 ·repeat (first | rw [ko] | rw [kr] | simp -dsimp -implicitDefEqProofs only [go_sem])
  exact ⟨H2.le.refl _, ⟨_, rfl⟩, _, rfl, fun hh => by omega⟩
 ·repeat (first | rw [ko] | rw [kr] | simp -dsimp -implicitDefEqProofs only [go_sem, sQ1])
  refine lz_keep [0] (fun m e h' => ∃ (k n : Nat) (x : Int), h' = h.up n ∧ hn h .mk ≤ n ∧ look e 5 .mk = .raw (.int .i64 k) ∧ look e 1 .mk = .raw (.int .i64 x) ∧ 0 ≤ x ∧ (zs.length : Int) + sumN szLayer (zs.take k) + x ≤ left ∧ m + k = zs.length) zs.length ?_ ?_
  ·exact ⟨0, hn h .mk, left - zs.length, up_self, Nat.le_refl _, zsm, zsm, by omega, by simp [sumN]; omega, by omega⟩
  ·rintro m e h' hks ⟨k, n, x, rfl, hnn, e5, e1, hx, hsum, hk⟩
   simp -dsimp -implicitDefEqProofs only [go_sem, sQ1] at hks
   by_cases h2 : (k : Int) < (zs.length : Int)
   ·have h3 : k < zs.length := by omega
    have hst : sumN szLayer (zs.take (k + 1)) = sumN szLayer (zs.take k) + szLayer (zs.getD k default) := sumN_take (f := szLayer) h3
    repeat (first | rw [ko] | rw [kr] | simp -dsimp -implicitDefEqProofs only [go_sem, sQ1, sQ2, sQ3, hks, e5, e1, h2, h3])
    refine pw_intro (szLayer_ok (F := under (under f k)) (c := zs.getD k default) (hf2 _ (getD_mem h3)) ⟨by omega, by omega⟩) ?_
    rintro _ n2 hn2 ⟨x2, rfl, hx2⟩
    simp only [hn_up] at hn2
    repeat (first | rw [ko] | rw [kr] | simp -dsimp -implicitDefEqProofs only [go_sem, sQ1])
    refine gz_dec (fun h4 => ?_) (fun h4 => ?_)
    ·repeat (first | rw [ko] | rw [kr] | simp -dsimp -implicitDefEqProofs only [go_sem])
     exact ⟨(by first | exact le_up (H2.le.refl _) (by omega) | exact le_up (le_up (H2.le.refl _) hnn) (by rw [hn_up]; omega)), ⟨_, rfl⟩, _, rfl, fun hh => by omega⟩
    ·repeat (first | rw [ko] | rw [kr] | simp -dsimp -implicitDefEqProofs only [go_sem, sQ1, wrap_succ h3 hf1])
     exact nx_keep (m - 1) (by omega) zsm ⟨k + 1, n2, x2, up_up, by omega, zsm, zsm, by omega, by have := hx2 (by omega); omega, by omega⟩
   ·repeat (first | rw [ko] | rw [kr] | simp -dsimp -implicitDefEqProofs only [go_sem, sQ1, hks, e5, e1, h2])
    refine ⟨le_up (H2.le.refl _) hnn, ⟨_, rfl⟩, x, rfl, fun _ => ?_⟩
    rw [List.take_of_length_le (by omega)] at hsum
    omega
theorem eqLayerS_pw {f f' : Adr} {zs : List LLayer} {h : H2} (hf : fitLayerS zs) : PW Tryz.prog W0 68 [.sl f 32 (rLayerS zs), .sl f' 32 (rLayerS zs)] h (fun y => y = .raw (.bool true)) := by
 obtain ⟨hf1, hf2⟩ := hf
 refine PW.scalar ?_
 refine begins [[0, 1], [0, 1], [], [0, 1], [0, 1, 5], [0, 1, 5], [0, 1, 5], [], []] Tryz.func68 rfl (rs := [.tmp 4]) rfl rfl ?_
 intro wf
 repeat (first | rw [ko] | rw [kr] | simp -dsimp -implicitDefEqProofs only [go_sem, sQ1])
 refine lz_keep [0, 1] (fun m e h' => ∃ (k n : Nat), h' = h.up n ∧ hn h .mk ≤ n ∧ look e 5 .mk = .raw (.int .i64 k) ∧ m + k = zs.length) zs.length ?_ ?_
 ·exact ⟨0, hn h .mk, up_self, Nat.le_refl _, zsm, by omega⟩
 ·rintro m e h' hks ⟨k, n, rfl, hnn, e5, hk⟩
  simp -dsimp -implicitDefEqProofs only [go_sem, sQ1] at hks
  by_cases h2 : (k : Int) < (zs.length : Int)
  ·have h3 : k < zs.length := by omega
   repeat (first | rw [ko] | rw [kr] | simp -dsimp -implicitDefEqProofs only [go_sem, sQ1, hks, e5, h2])
   refine dq_intro [(0, []), (1, []), (2, []), (3, []), (4, []), (5, []), (6, []), (7, []), (8, []), (9, [])] (by kernel_rfl) ?_
   repeat (first | rw [ko] | rw [kr] | simp -dsimp -implicitDefEqProofs only [go_sem, sQ1, sQ2, sQ3, h3])
   refine pw_intro (eqLayer_ok (F := under (under f k)) (F' := under (under f' k)) (c := zs.getD k default) (hf2 _ (getD_mem h3))) ?_
   rintro _ n2 hn2 rfl
   simp only [hn_up] at hn2
   repeat (first | rw [ko] | rw [kr] | simp -dsimp -implicitDefEqProofs only [go_sem, sQ1, wrap_succ h3 hf1])
   exact nx_keep (m - 1) (by omega) zsm ⟨k + 1, n2, up_up, by omega, zsm, by omega⟩
  ·repeat (first | rw [ko] | rw [kr] | simp -dsimp -implicitDefEqProofs only [go_sem, sQ1, hks, e5, h2])
   exact ⟨le_up (H2.le.refl _) hnn, ⟨_, rfl⟩, rfl⟩
theorem toLayerS_new {f : Adr} {zs : List LLayer} {h : H2} (hs : szLayerS zs ≤ 1048576) : NewT Tryz.prog W0 55 [.sl f 32 (rLayerS zs)] h (.l 32 (rLayerS zs)) := by
 unfold szLayerS at hs
 have hE : ∀ a, (eLayer a).length = 32 := fun a => rfl
 refine begins [[0], [0], [0, 3], [0, 3, 4], [0, 3, 4], [0, 3, 4], [3]] Tryz.func55 rfl (rs := [.tmp 2]) rfl rfl ?_
 intro wf
 repeat (first | rw [ko] | rw [kr] | simp -dsimp -implicitDefEqProofs only [go_sem])
 refine make_intro Ai.ty_el41 Ai.ty_zr152 (by decide) ⟨by omega, by simp only [Int.toNat_natCast]; have : Ai.most = 1099511627776 := rfl; omega⟩ ?_
 repeat (first | rw [ko] | rw [kr] | simp -dsimp -implicitDefEqProofs only [go_sem, sQ1])
 refine lz_keep [0, 3] (fun m e h' => ∃ (k : Nat) (cs : List X) (bs : List Nat), look e 4 .mk = .raw (.int .i64 k) ∧ m + k = zs.length ∧ hg h' (hn h .mk) .mk = some ⟨32, cs⟩ ∧ cs.length = zs.length * 32 ∧ OTs h' bs (cs.take (k * 32)) (((zs.take k).map eLayer).flatten) ∧ Bl (hn h .mk + 1) (hn h' .mk) bs ∧ h.le h' ∧ hn h .mk < hn h' .mk) zs.length ?_ ?_
 ·exact ⟨0, _, [], zsm, by omega, (by rw [hg_push, hoo]; rfl), by simp [rep_len], by simpa using OTs.nil, Bl.nil, le_push (H2.le.refl _), by rw [hn_push]; omega⟩
 ·rintro m e h' hks ⟨k, cs, bs, e4, hk, hrow, hcs, ho, hbl, hle, hlt⟩
  simp -dsimp -implicitDefEqProofs only [go_sem] at hks
  by_cases h2 : (k : Int) < (zs.length : Int)
  ·have h3 : k < zs.length := by omega
   have hsm : szLayer (zs.getD k default) ≤ sumN szLayer zs := sumN_mem (f := szLayer) (getD_mem h3)
   repeat (first | rw [ko] | rw [kr] | simp -dsimp -implicitDefEqProofs only [go_sem, sQ1, sQ2, sQ3, hks, e4, h2, h3])
   refine wz_intro (toLayer_ok (F := under (under f k)) (c := zs.getD k default) (by omega)) ?_
   rintro _ g2 ⟨l2, ys, b2, rfl, o2, bl2⟩
   have nn2 := l2.1
   have hyl : (ys).length = 32 := (OTs.len o2).trans (hE _)
   have hyo := OTs.okx o2
   obtain ⟨w1, w2, w3⟩ := wrt_next hcs h3 hyl
   have row2 := (l2.2 (hn h .mk) hlt).trans hrow
   have hi2 : (0 : Int) ≤ (k : Int) ∧ (k : Int) < (zs.length : Int) := by omega
   repeat (first | rw [ko] | rw [kr] | simp -dsimp -implicitDefEqProofs only [go_sem, sQ1, row2, hi2, hyl, hyo, w1, wrap_succ h3 (by omega)])
   have hset : ∀ {b : Nat} {kk : OB}, b ≠ hn h .mk → (g2.set (hn h .mk) kk).get b = g2.get b := fun hb => by simp only [H2.set]; rw [if_neg hb]
   refine nx_keep (m - 1) (by omega) zsm ⟨k + 1, _, bs ++ b2, zsm, by omega, (by rw [hg_set, hoo]; rfl), w2, ?_, ?_, le_set (hle.trans l2) (Nat.le_refl _), by simp -dsimp -implicitDefEqProofs only [go_sem] <;> omega⟩
   ·rw [w3, flat_next h3]
    refine OTs.append ((OTs.keep ho l2 hbl).frame fun b hb => hset (by have := (hbl.2 b hb).1; omega)) (o2.frame fun b hb => hset (by have := (bl2.2 b hb).1; omega))
   ·rw [hn_set]
    exact hbl.append bl2 (by omega) nn2
  ·repeat (first | rw [ko] | rw [kr] | simp -dsimp -implicitDefEqProofs only [go_sem, sQ1, hks, e4, h2])
   have : k = zs.length := by omega
   subst this
   obtain ⟨q1, q2⟩ := OT.full hE hrow hcs ho hbl hlt
   exact ⟨hle, _, q1, q2⟩
structure LModel where
 dim : Int
 heads : Int
 context : Int
 merges : List LMerge
 embed : List (List Int)
 layers : List LLayer
 gainEnd : List Int
 head : LMatrix
 turns : LTurns
instance : Inhabited LModel := ⟨⟨default, default, default, default, default, default, default, default, default⟩⟩
def eModel (c : LModel) : List T := [.v (.int .i64 c.dim), .v (.int .i64 c.heads), .v (.int .i64 c.context), .l 2 (rMergeS c.merges), .l 1 (rIntSS c.embed), .l 32 (rLayerS c.layers), .l 1 (ints c.gainEnd), .v (.int .i64 c.head.width), .l 1 (rIntSS c.head.rows), .l 1 (rIntSS c.head.scales), .v (.int .i64 c.head.mul), .v (.int .i64 c.head.shift), .l 1 (rIntSS c.turns.cos), .l 1 (rIntSS c.turns.sin)]
def xModel (F : Nat → Adr) (c : LModel) : List X := [.raw (.int .i64 c.dim), .raw (.int .i64 c.heads), .raw (.int .i64 c.context), .sl (F 3) 2 (rMergeS c.merges), .sl (F 4) 1 (rIntSS c.embed), .sl (F 5) 32 (rLayerS c.layers), .sl (F 6) 1 (ints c.gainEnd), .raw (.int .i64 c.head.width), .sl (F 8) 1 (rIntSS c.head.rows), .sl (F 9) 1 (rIntSS c.head.scales), .raw (.int .i64 c.head.mul), .raw (.int .i64 c.head.shift), .sl (F 12) 1 (rIntSS c.turns.cos), .sl (F 13) 1 (rIntSS c.turns.sin)]
theorem xModel_def {F : Nat → Adr} {c : LModel} : xModel F c = [.raw (.int .i64 c.dim), .raw (.int .i64 c.heads), .raw (.int .i64 c.context), .sl (F 3) 2 (rMergeS c.merges), .sl (F 4) 1 (rIntSS c.embed), .sl (F 5) 32 (rLayerS c.layers), .sl (F 6) 1 (ints c.gainEnd), .raw (.int .i64 c.head.width), .sl (F 8) 1 (rIntSS c.head.rows), .sl (F 9) 1 (rIntSS c.head.scales), .raw (.int .i64 c.head.mul), .raw (.int .i64 c.head.shift), .sl (F 12) 1 (rIntSS c.turns.cos), .sl (F 13) 1 (rIntSS c.turns.sin)] := rfl
def szModel (c : LModel) : Nat := szMergeS c.merges + szIntSS c.embed + szLayerS c.layers + c.gainEnd.length + szMatrix c.head + szTurns c.turns
def fitModel (c : LModel) : Prop := fitMergeS c.merges ∧ fitIntSS c.embed ∧ fitLayerS c.layers ∧ c.gainEnd.length ≤ 9223372036854775807 ∧ fitMatrix c.head ∧ fitTurns c.turns
attribute [go_sem] xModel_def
theorem invModel {g : H2} {bs : List Nat} {ys : List X} {c : LModel} (o : OTs g bs ys (eModel c)) : ∃ b3 s3 b4 s4 b5 s5 b6 s6 b8 s8 b9 s9 b12 s12 b13 s13, ys = [.raw (.int .i64 c.dim), .raw (.int .i64 c.heads), .raw (.int .i64 c.context), s3, s4, s5, s6, .raw (.int .i64 c.head.width), s8, s9, .raw (.int .i64 c.head.mul), .raw (.int .i64 c.head.shift), s12, s13] ∧ bs = b3 ++ (b4 ++ (b5 ++ (b6 ++ (b8 ++ (b9 ++ (b12 ++ b13)))))) ∧ OT g b3 s3 (.l 2 (rMergeS c.merges)) ∧ OT g b4 s4 (.l 1 (rIntSS c.embed)) ∧ OT g b5 s5 (.l 32 (rLayerS c.layers)) ∧ OT g b6 s6 (.l 1 (ints c.gainEnd)) ∧ OT g b8 s8 (.l 1 (rIntSS c.head.rows)) ∧ OT g b9 s9 (.l 1 (rIntSS c.head.scales)) ∧ OT g b12 s12 (.l 1 (rIntSS c.turns.cos)) ∧ OT g b13 s13 (.l 1 (rIntSS c.turns.sin)) := by
 unfold eModel at o
 obtain ⟨ys0, rfl, o0⟩ := OTs.headv o
 obtain ⟨ys1, rfl, o1⟩ := OTs.headv o0
 obtain ⟨ys2, rfl, o2⟩ := OTs.headv o1
 obtain ⟨b3, bs3, s3, ys3, rfl, rfl, a3, o3⟩ := OTs.head o2
 obtain ⟨b4, bs4, s4, ys4, rfl, rfl, a4, o4⟩ := OTs.head o3
 obtain ⟨b5, bs5, s5, ys5, rfl, rfl, a5, o5⟩ := OTs.head o4
 obtain ⟨b6, bs6, s6, ys6, rfl, rfl, a6, o6⟩ := OTs.head o5
 obtain ⟨ys7, rfl, o7⟩ := OTs.headv o6
 obtain ⟨b8, bs8, s8, ys8, rfl, rfl, a8, o8⟩ := OTs.head o7
 obtain ⟨b9, bs9, s9, ys9, rfl, rfl, a9, o9⟩ := OTs.head o8
 obtain ⟨ys10, rfl, o10⟩ := OTs.headv o9
 obtain ⟨ys11, rfl, o11⟩ := OTs.headv o10
 obtain ⟨b12, bs12, s12, ys12, rfl, rfl, a12, o12⟩ := OTs.head o11
 obtain ⟨b13, bs13, s13, ys13, rfl, rfl, a13, o13⟩ := OTs.head o12
 obtain ⟨rfl, rfl⟩ := OTs.tail0 o13
 exact ⟨_, _, _, _, _, _, _, _, _, _, _, _, _, _, _, _, rfl, by simp only [List.append_nil], a3, a4, a5, a6, a8, a9, a12, a13⟩
theorem outModel {g : H2} {c : LModel} {b3 b4 b5 b6 b8 b9 b12 b13 : List Nat} {s3 s4 s5 s6 s8 s9 s12 s13 : X} (a3 : OT g b3 s3 (.l 2 (rMergeS c.merges))) (a4 : OT g b4 s4 (.l 1 (rIntSS c.embed))) (a5 : OT g b5 s5 (.l 32 (rLayerS c.layers))) (a6 : OT g b6 s6 (.l 1 (ints c.gainEnd))) (a8 : OT g b8 s8 (.l 1 (rIntSS c.head.rows))) (a9 : OT g b9 s9 (.l 1 (rIntSS c.head.scales))) (a12 : OT g b12 s12 (.l 1 (rIntSS c.turns.cos))) (a13 : OT g b13 s13 (.l 1 (rIntSS c.turns.sin))) : OTs g (b3 ++ (b4 ++ (b5 ++ (b6 ++ (b8 ++ (b9 ++ (b12 ++ b13))))))) [.raw (.int .i64 c.dim), .raw (.int .i64 c.heads), .raw (.int .i64 c.context), s3, s4, s5, s6, .raw (.int .i64 c.head.width), s8, s9, .raw (.int .i64 c.head.mul), .raw (.int .i64 c.head.shift), s12, s13] (eModel c) := by
 have := OTs.cons (OT.raw (v := .int .i64 c.dim) rfl) (OTs.cons (OT.raw (v := .int .i64 c.heads) rfl) (OTs.cons (OT.raw (v := .int .i64 c.context) rfl) (OTs.cons a3 (OTs.cons a4 (OTs.cons a5 (OTs.cons a6 (OTs.cons (OT.raw (v := .int .i64 c.head.width) rfl) (OTs.cons a8 (OTs.cons a9 (OTs.cons (OT.raw (v := .int .i64 c.head.mul) rfl) (OTs.cons (OT.raw (v := .int .i64 c.head.shift) rfl) (OTs.cons a12 (OTs.cons a13 (OTs.nil))))))))))))))
 simpa only [eModel, List.append_nil, List.nil_append] using this
theorem szModel_ok {F : Nat → Adr} {c : LModel} {left : Int} {h : H2} (hf : fitModel c) (hl : 0 ≤ left ∧ left ≤ 1048576) : PW Tryz.prog W0 9 [.st (xModel F c), .raw (.int .i64 left)] h (fun y => ∃ k : Int, y = .raw (.int .i64 k) ∧ (0 ≤ k → (szModel c : Int) + k ≤ left)) := by
 unfold fitModel at hf
 refine PW.scalar ?_
 refine begins [[0, 1], [1, 2], [1, 2], [], [1, 2], [1, 2], [], [1, 2], [1, 2], [], [1, 2], [1, 2], [], [1, 2], [1, 2], [], [1, 2], [1], [], [1]] Tryz.func9 rfl (rs := [.tmp 4]) rfl rfl ?_
 intro wf
 repeat (first | rw [ko] | rw [kr] | simp -dsimp -implicitDefEqProofs only [go_sem, sQ1])
 refine pw_intro (szMergeS_pw  hf.1 ⟨by omega, by omega⟩) ?_
 rintro _ n3 hn3 ⟨k3, rfl, hk3⟩
 repeat (first | rw [ko] | rw [kr] | simp -dsimp -implicitDefEqProofs only [go_sem, sQ1])
 refine gz_dec (fun q3 => ?_) (fun q3 => ?_)
 ·repeat (first | rw [ko] | rw [kr] | simp -dsimp -implicitDefEqProofs only [go_sem])
  exact ⟨zale, ⟨_, rfl⟩, _, rfl, fun hh => by omega⟩
 repeat (first | rw [ko] | rw [kr] | simp -dsimp -implicitDefEqProofs only [go_sem, sQ1])
 refine pw_intro (szIntSS_pw  hf.2.1 ⟨by omega, by omega⟩) ?_
 rintro _ n4 hn4 ⟨k4, rfl, hk4⟩
 repeat (first | rw [ko] | rw [kr] | simp -dsimp -implicitDefEqProofs only [go_sem, sQ1])
 refine gz_dec (fun q4 => ?_) (fun q4 => ?_)
 ·repeat (first | rw [ko] | rw [kr] | simp -dsimp -implicitDefEqProofs only [go_sem])
  exact ⟨zale, ⟨_, rfl⟩, _, rfl, fun hh => by omega⟩
 repeat (first | rw [ko] | rw [kr] | simp -dsimp -implicitDefEqProofs only [go_sem, sQ1])
 refine pw_intro (szLayerS_pw  hf.2.2.1 ⟨by omega, by omega⟩) ?_
 rintro _ n5 hn5 ⟨k5, rfl, hk5⟩
 repeat (first | rw [ko] | rw [kr] | simp -dsimp -implicitDefEqProofs only [go_sem, sQ1])
 refine gz_dec (fun q5 => ?_) (fun q5 => ?_)
 ·repeat (first | rw [ko] | rw [kr] | simp -dsimp -implicitDefEqProofs only [go_sem])
  exact ⟨zale, ⟨_, rfl⟩, _, rfl, fun hh => by omega⟩
 repeat (first | rw [ko] | rw [kr] | simp -dsimp -implicitDefEqProofs only [go_sem, sQ1])
 refine pw_intro (szIntS_pw  hf.2.2.2.1 ⟨by omega, by omega⟩) ?_
 rintro _ n6 hn6 ⟨k6, rfl, hk6⟩
 repeat (first | rw [ko] | rw [kr] | simp -dsimp -implicitDefEqProofs only [go_sem, sQ1])
 refine gz_dec (fun q6 => ?_) (fun q6 => ?_)
 ·repeat (first | rw [ko] | rw [kr] | simp -dsimp -implicitDefEqProofs only [go_sem])
  exact ⟨zale, ⟨_, rfl⟩, _, rfl, fun hh => by omega⟩
 repeat (first | rw [ko] | rw [kr] | simp -dsimp -implicitDefEqProofs only [go_sem, sQ1])
 refine pw_intro (szMatrix_ok (F := fun j => F (j + 7)) hf.2.2.2.2.1 ⟨by omega, by omega⟩) ?_
 rintro _ n7 hn7 ⟨k7, rfl, hk7⟩
 repeat (first | rw [ko] | rw [kr] | simp -dsimp -implicitDefEqProofs only [go_sem, sQ1])
 refine gz_dec (fun q7 => ?_) (fun q7 => ?_)
 ·repeat (first | rw [ko] | rw [kr] | simp -dsimp -implicitDefEqProofs only [go_sem])
  exact ⟨zale, ⟨_, rfl⟩, _, rfl, fun hh => by omega⟩
 repeat (first | rw [ko] | rw [kr] | simp -dsimp -implicitDefEqProofs only [go_sem, sQ1])
 refine pw_intro (szTurns_ok (F := fun j => F (j + 12)) hf.2.2.2.2.2 ⟨by omega, by omega⟩) ?_
 rintro _ n8 hn8 ⟨k8, rfl, hk8⟩
 repeat (first | rw [ko] | rw [kr] | simp -dsimp -implicitDefEqProofs only [go_sem])
 refine gz_dec (fun q8 => ?_) (fun q8 => ?_)
 ·repeat (first | rw [ko] | rw [kr] | simp -dsimp -implicitDefEqProofs only [go_sem])
  exact ⟨zale, ⟨_, rfl⟩, _, rfl, fun hh => by omega⟩
 repeat (first | rw [ko] | rw [kr] | simp -dsimp -implicitDefEqProofs only [go_sem, sQ1])
 exact ⟨zale, ⟨_, rfl⟩, _, rfl, fun hh => by unfold szModel; omega⟩
theorem eqModel_ok {F F' : Nat → Adr} {c : LModel} {h : H2} (hf : fitModel c) : PW Tryz.prog W0 17 [.st (xModel F c), .st (xModel F' c)] h (fun y => y = .raw (.bool true)) := by
 unfold fitModel at hf
 refine PW.scalar ?_
 refine begins [[0, 1], [2, 3], [], [2, 3], [], [2, 3], [], [2, 3], [], [2, 3], [], [2, 3], [], [2, 3], [], [2, 3], [], [2, 3], [], []] Tryz.func17 rfl (rs := [.tmp 4]) rfl rfl ?_
 intro wf
 repeat (first | rw [ko] | rw [kr] | simp -dsimp -implicitDefEqProofs only [go_sem, sQ1])
 refine pw_intro (eqMergeS_pw  hf.1) ?_
 rintro _ n3 hn3 rfl
 repeat (first | rw [ko] | rw [kr] | simp -dsimp -implicitDefEqProofs only [go_sem, sQ1])
 refine pw_intro (eqIntSS_pw  hf.2.1) ?_
 rintro _ n4 hn4 rfl
 repeat (first | rw [ko] | rw [kr] | simp -dsimp -implicitDefEqProofs only [go_sem, sQ1])
 refine pw_intro (eqLayerS_pw  hf.2.2.1) ?_
 rintro _ n5 hn5 rfl
 repeat (first | rw [ko] | rw [kr] | simp -dsimp -implicitDefEqProofs only [go_sem, sQ1])
 refine pw_intro (eqIntS_pw  hf.2.2.2.1) ?_
 rintro _ n6 hn6 rfl
 repeat (first | rw [ko] | rw [kr] | simp -dsimp -implicitDefEqProofs only [go_sem, sQ1])
 refine pw_intro (eqMatrix_ok (F := fun j => F (j + 7)) (F' := fun j => F' (j + 7)) hf.2.2.2.2.1) ?_
 rintro _ n7 hn7 rfl
 repeat (first | rw [ko] | rw [kr] | simp -dsimp -implicitDefEqProofs only [go_sem, sQ1])
 refine pw_intro (eqTurns_ok (F := fun j => F (j + 12)) (F' := fun j => F' (j + 12)) hf.2.2.2.2.2) ?_
 rintro _ n8 hn8 rfl
 repeat (first | rw [ko] | rw [kr] | simp -dsimp -implicitDefEqProofs only [go_sem])
 exact ⟨zale, ⟨_, rfl⟩, rfl⟩
theorem toModel_ok {F : Nat → Adr} {c : LModel} {h : H2} (hs : szModel c ≤ 1048576) : NewS Tryz.prog W0 12 [.st (xModel F c)] h (eModel c) := by
 unfold szModel at hs
 refine begins [[0], [1, 2], [1, 2, 3], [1, 2, 3], [1, 2, 3], [1, 2, 3], [1, 2, 3], [1, 2, 3], [1, 2, 3], [1, 2, 3], [1, 2, 3], [2, 3]] Tryz.func12 rfl (rs := [.cell 2 45]) rfl rfl ?_
 intro wf
 repeat (first | rw [ko] | rw [kr] | simp -dsimp -implicitDefEqProofs only [go_sem, sQ1])
 refine wz_intro (toMergeS_new  (by omega)) ?_
 rintro s3 g3 ⟨l3, b3, o3, bl3⟩
 have ce3 := OT.cell o3
 have n3 := l3.n
 have a30 := l3.2 (hn h .mk) (by simp only [hn_push, hn_set]; omega)
 have a31 := l3.2 (hn h .mk + 1) (by simp only [hn_push, hn_set]; omega)
 have a32 := l3.2 (hn h .mk + 1 + 1) (by simp only [hn_push, hn_set]; omega)
 simp -dsimp -implicitDefEqProofs only [go_sem, hoo] at n3 a30 a31 a32
 have L3 : h.le g3 := H2.le.trans zale l3
 repeat (first | rw [ko] | rw [kr] | simp -dsimp -implicitDefEqProofs only [go_sem, sQ1, a30, a32, ce3])
 refine wz_intro (toIntSS_new  (by omega)) ?_
 rintro s4 g4 ⟨l4, b4, o4, bl4⟩
 have ce4 := OT.cell o4
 have n4 := l4.n
 have a40 := l4.2 (hn h .mk) (by simp only [hn_set]; omega)
 have a41 := l4.2 (hn h .mk + 1) (by simp only [hn_set]; omega)
 have a42 := l4.2 (hn h .mk + 1 + 1) (by simp only [hn_set]; omega)
 simp -dsimp -implicitDefEqProofs only [go_sem, a30, a31, hoo] at n4 a40 a41 a42
 have L4 : h.le g4 := H2.le.trans zale l4
 repeat (first | rw [ko] | rw [kr] | simp -dsimp -implicitDefEqProofs only [go_sem, sQ1, a40, a42, ce4])
 refine wz_intro (toLayerS_new  (by omega)) ?_
 rintro s5 g5 ⟨l5, b5, o5, bl5⟩
 have ce5 := OT.cell o5
 have n5 := l5.n
 have a50 := l5.2 (hn h .mk) (by simp only [hn_set]; omega)
 have a51 := l5.2 (hn h .mk + 1) (by simp only [hn_set]; omega)
 have a52 := l5.2 (hn h .mk + 1 + 1) (by simp only [hn_set]; omega)
 simp -dsimp -implicitDefEqProofs only [go_sem, a40, a41, hoo] at n5 a50 a51 a52
 have L5 : h.le g5 := H2.le.trans zale l5
 repeat (first | rw [ko] | rw [kr] | simp -dsimp -implicitDefEqProofs only [go_sem, sQ1, a50, a52, ce5])
 refine wz_intro (toIntS_new  (by omega)) ?_
 rintro s6 g6 ⟨l6, b6, o6, bl6⟩
 have ce6 := OT.cell o6
 have n6 := l6.n
 have a60 := l6.2 (hn h .mk) (by simp only [hn_set]; omega)
 have a61 := l6.2 (hn h .mk + 1) (by simp only [hn_set]; omega)
 have a62 := l6.2 (hn h .mk + 1 + 1) (by simp only [hn_set]; omega)
 simp -dsimp -implicitDefEqProofs only [go_sem, a50, a51, hoo] at n6 a60 a61 a62
 have L6 : h.le g6 := H2.le.trans zale l6
 repeat (first | rw [ko] | rw [kr] | simp -dsimp -implicitDefEqProofs only [go_sem, sQ1, a60, a62, ce6])
 refine wz_intro (toMatrix_ok (F := fun j => F (j + 7)) (by omega)) ?_
 rintro _ g7 ⟨l7, ys7, b7, rfl, o7, bl7⟩
 obtain ⟨b7_1, s8, b7_2, s9, rfl, hb7, o7_1, o7_2⟩ := invMatrix o7
 have ce8 := OT.cell o7_1
 have ce9 := OT.cell o7_2
 have n7 := l7.n
 have a70 := l7.2 (hn h .mk) (by simp only [hn_set]; omega)
 have a71 := l7.2 (hn h .mk + 1) (by simp only [hn_set]; omega)
 have a72 := l7.2 (hn h .mk + 1 + 1) (by simp only [hn_set]; omega)
 simp -dsimp -implicitDefEqProofs only [go_sem, a60, a61, hoo] at n7 a70 a71 a72
 have L7 : h.le g7 := H2.le.trans zale l7
 repeat (first | rw [ko] | rw [kr] | simp -dsimp -implicitDefEqProofs only [go_sem, sQ1, sQ2, a70, a72, ce8, ce9])
 refine wz_intro (toTurns_ok (F := fun j => F (j + 12)) (by omega)) ?_
 rintro _ g8 ⟨l8, ys8, b8, rfl, o8, bl8⟩
 obtain ⟨b8_0, s12, b8_1, s13, rfl, hb8, o8_0, o8_1⟩ := invTurns o8
 have ce12 := OT.cell o8_0
 have ce13 := OT.cell o8_1
 have n8 := l8.n
 have a80 := l8.2 (hn h .mk) (by simp only [hn_set]; omega)
 have a81 := l8.2 (hn h .mk + 1) (by simp only [hn_set]; omega)
 have a82 := l8.2 (hn h .mk + 1 + 1) (by simp only [hn_set]; omega)
 simp -dsimp -implicitDefEqProofs only [go_sem, a70, a71, hoo] at n8 a80 a81 a82
 have L8 : h.le g8 := H2.le.trans zale l8
 repeat (first | rw [ko] | rw [kr] | simp -dsimp -implicitDefEqProofs only [go_sem, sQ1, sQ2, a81, a82, ce3, ce4, ce5, ce6, ce8, ce9, ce12, ce13])
 refine ⟨zale, _, b3 ++ (b4 ++ (b5 ++ (b6 ++ (b7_1 ++ (b7_2 ++ (b8_0 ++ b8_1)))))), rfl, outModel (c := c) ?_ ?_ ?_ ?_ ?_ ?_ ?_ ?_, ?_⟩
 ·refine OT.frame o3 fun b hb => ?_
  have hbl := bl3.2 b (hb)
  simp only [hn_push, hn_set] at hbl
  simp only [H2.set]
  rw [if_neg (by omega), if_neg (by omega)]
  rw [show g8.get b = _ from l8.2 b (by simp only [hn_set]; omega)]
  simp only [hg, H2.set]
  rw [if_neg (by omega)]
  rw [show g7.get b = _ from l7.2 b (by simp only [hn_set]; omega)]
  simp only [hg, H2.set]
  rw [if_neg (by omega)]
  rw [show g6.get b = _ from l6.2 b (by simp only [hn_set]; omega)]
  simp only [hg, H2.set]
  rw [if_neg (by omega)]
  rw [show g5.get b = _ from l5.2 b (by simp only [hn_set]; omega)]
  simp only [hg, H2.set]
  rw [if_neg (by omega)]
  rw [show g4.get b = _ from l4.2 b (by simp only [hn_set]; omega)]
  simp only [hg, H2.set]
  rw [if_neg (by omega)]
 ·refine OT.frame o4 fun b hb => ?_
  have hbl := bl4.2 b (hb)
  simp only [hn_set] at hbl
  simp only [H2.set]
  rw [if_neg (by omega), if_neg (by omega)]
  rw [show g8.get b = _ from l8.2 b (by simp only [hn_set]; omega)]
  simp only [hg, H2.set]
  rw [if_neg (by omega)]
  rw [show g7.get b = _ from l7.2 b (by simp only [hn_set]; omega)]
  simp only [hg, H2.set]
  rw [if_neg (by omega)]
  rw [show g6.get b = _ from l6.2 b (by simp only [hn_set]; omega)]
  simp only [hg, H2.set]
  rw [if_neg (by omega)]
  rw [show g5.get b = _ from l5.2 b (by simp only [hn_set]; omega)]
  simp only [hg, H2.set]
  rw [if_neg (by omega)]
 ·refine OT.frame o5 fun b hb => ?_
  have hbl := bl5.2 b (hb)
  simp only [hn_set] at hbl
  simp only [H2.set]
  rw [if_neg (by omega), if_neg (by omega)]
  rw [show g8.get b = _ from l8.2 b (by simp only [hn_set]; omega)]
  simp only [hg, H2.set]
  rw [if_neg (by omega)]
  rw [show g7.get b = _ from l7.2 b (by simp only [hn_set]; omega)]
  simp only [hg, H2.set]
  rw [if_neg (by omega)]
  rw [show g6.get b = _ from l6.2 b (by simp only [hn_set]; omega)]
  simp only [hg, H2.set]
  rw [if_neg (by omega)]
 ·refine OT.frame o6 fun b hb => ?_
  have hbl := bl6.2 b (hb)
  simp only [hn_set] at hbl
  simp only [H2.set]
  rw [if_neg (by omega), if_neg (by omega)]
  rw [show g8.get b = _ from l8.2 b (by simp only [hn_set]; omega)]
  simp only [hg, H2.set]
  rw [if_neg (by omega)]
  rw [show g7.get b = _ from l7.2 b (by simp only [hn_set]; omega)]
  simp only [hg, H2.set]
  rw [if_neg (by omega)]
 ·refine OT.frame o7_1 fun b hb => ?_
  have hbl := bl7.2 b (by rw [hb7]; simp [hb])
  simp only [hn_set] at hbl
  simp only [H2.set]
  rw [if_neg (by omega), if_neg (by omega)]
  rw [show g8.get b = _ from l8.2 b (by simp only [hn_set]; omega)]
  simp only [hg, H2.set]
  rw [if_neg (by omega)]
 ·refine OT.frame o7_2 fun b hb => ?_
  have hbl := bl7.2 b (by rw [hb7]; simp [hb])
  simp only [hn_set] at hbl
  simp only [H2.set]
  rw [if_neg (by omega), if_neg (by omega)]
  rw [show g8.get b = _ from l8.2 b (by simp only [hn_set]; omega)]
  simp only [hg, H2.set]
  rw [if_neg (by omega)]
 ·refine OT.frame o8_0 fun b hb => ?_
  have hbl := bl8.2 b (by rw [hb8]; simp [hb])
  simp only [hn_set] at hbl
  simp only [H2.set]
  rw [if_neg (by omega), if_neg (by omega)]
 ·refine OT.frame o8_1 fun b hb => ?_
  have hbl := bl8.2 b (by rw [hb8]; simp [hb])
  simp only [hn_set] at hbl
  simp only [H2.set]
  rw [if_neg (by omega), if_neg (by omega)]
 ·simp only [hn_set]
  have m3 := bl3
  simp only [hn_push, hn_set] at m3
  have m4 := bl4
  simp only [hn_set] at m4
  have m5 := bl5
  simp only [hn_set] at m5
  have m6 := bl6
  simp only [hn_set] at m6
  have m7 := bl7
  simp only [hn_set] at m7
  rw [hb7] at m7
  have m8 := bl8
  simp only [hn_set] at m8
  rw [hb8] at m8
  have := ((Bl.append m3 (Bl.append m4 (Bl.append m5 (Bl.append m6 (Bl.append m7 m8 (by omega) (by omega)) (by omega) (by omega)) (by omega) (by omega)) (by omega) (by omega)) (by omega) (by omega))).wide (N' := hn h .mk) (by omega) (Nat.le_refl _)
  simpa only [List.append_assoc] using this
end Go.Bi
end
section
set_option maxRecDepth 20000
namespace Go.Bi
open Go.Proofs
open Go.Ai (wrap_i64 Heap)
variable {W0 : World} {P : Program}
theorem any_getD {α : Type} [Inhabited α] {ss : List α} {p : α → Bool} {k : Nat} (hk : k < ss.length) (h : p (ss.getD k default) = true) : ss.any p = true :=
 List.any_eq_true.2 ⟨_, List.getElem_mem hk, by rw [List.getD_eq_getElem?_getD, List.getElem?_eq_getElem hk] at h; exact h⟩
theorem any_none {α : Type} [Inhabited α] {ss : List α} {p : α → Bool} (h : ∀ j, j < ss.length → p (ss.getD j default) = false) : ss.any p = false := by
 rw [List.any_eq_false]
 intro x hx
 obtain ⟨j, hj, rfl⟩ := List.getElem_of_mem hx
 have := h j hj
 rw [List.getD_eq_getElem?_getD, List.getElem?_eq_getElem hj] at this
 simpa using this
theorem all_none {α : Type} [Inhabited α] {ss : List α} {p : α → Bool} {k : Nat} (hk : k < ss.length) (h : p (ss.getD k default) = false) : ss.all p = false := by
 rw [List.all_eq_not_any_not, any_getD hk (p := fun x => !p x) (by simp only [h]; rfl)]; rfl
theorem all_getD {α : Type} [Inhabited α] {ss : List α} {p : α → Bool} (h : ∀ j, j < ss.length → p (ss.getD j default) = true) : ss.all p = true := by
 rw [List.all_eq_not_any_not, any_none (p := fun x => !p x) (fun j hj => by simp only [h j hj]; rfl)]; rfl
theorem containsI_ok {F : FuncId} {p : Int → Bool} {caps : List Value} {f : Adr} {ss : List Int} {h : H2} (hn0 : ss.length ≤ 9223372036854775807)
  (hf : ∀ s, WC2 Tryz.prog W0 F ([.raw (.int .i64 s)] ++ caps.map .raw) h (fun v h' => v = .raw (.bool (p s)) ∧ h' = h)) :
  WC2 Tryz.prog W0 173 [.sl f 1 (ints ss), .raw (.func (.func F) #[] caps.toArray)] h (fun v h' => v = .raw (.bool (ss.any p)) ∧ h' = h) := by
 refine begins [[0, 1], [0, 1]] Tryz.func173 rfl (rs := [.tmp 4]) rfl rfl ?_
 intro wf
 repeat (first | rw [ko] | rw [kr] | simp -dsimp -implicitDefEqProofs only [go_sem])
 refine wz_intro (indexI_ok hn0 hf) ?_
 rintro _ h' ⟨⟨k, rfl, hk⟩, rfl⟩
 repeat (first | rw [ko] | rw [kr] | simp -dsimp -implicitDefEqProofs only [go_sem, hk])
 exact ⟨rfl, rfl⟩
theorem allIn1_ok {b1 b2 z1 z2 : Nat} {x y : Int} {h : H2} (h1 : hg h b1 .mk = some ⟨z1, [.raw (.int .i64 x)]⟩) (h2 : hg h b2 .mk = some ⟨z2, [.raw (.int .i64 y)]⟩) (s : Int) :
  WC2 Tryz.prog W0 174 ([.raw (.int .i64 s)] ++ [Value.pointer (some ⟨b1, 0, none⟩), .pointer (some ⟨b2, 0, none⟩)].map .raw) h (fun v h' => v = .raw (.bool (!inI s x y)) ∧ h' = h) := by
 simp only [List.cons_append, List.nil_append, List.map_cons, List.map_nil]
 refine begins [[0, 1, 2], [0, 1, 2]] Tryz.func174 rfl (rs := [.tmp 4]) rfl rfl ?_
 intro wf
 repeat (first | rw [ko] | rw [kr] | simp -dsimp -implicitDefEqProofs only [go_sem, h1, h2])
 refine wz_intro in_ok ?_
 rintro _ h' ⟨rfl, rfl⟩
 repeat (first | rw [ko] | rw [kr] | simp -dsimp -implicitDefEqProofs only [go_sem])
 exact ⟨rfl, rfl⟩
def allI (zs : List Int) (x y : Int) : Bool := zs.all fun s => inI s x y
theorem allIn_ok {f : Adr} {zs : List Int} {x y : Int} {h : H2} (hn0 : zs.length ≤ 9223372036854775807) :
  PW Tryz.prog W0 123 [.sl f 1 (ints zs), .raw (.int .i64 x), .raw (.int .i64 y)] h (fun r => r = .raw (.bool (allI zs x y))) := by
 refine PW.scalar ?_
 refine begins [[0, 1, 2], [0, 4, 5]] Tryz.func123 rfl (rs := [.tmp 6]) rfl rfl ?_
 intro wf
 repeat (first | rw [ko] | rw [kr] | simp -dsimp -implicitDefEqProofs only [go_sem, sQ1])
 refine wz_intro (containsI_ok hn0 (allIn1_ok (x := x) (y := y) (z1 := 1) (z2 := 1) ?_ ?_)) ?_
 ·simp -dsimp -implicitDefEqProofs only [go_sem]
 ·simp -dsimp -implicitDefEqProofs only [go_sem]
 rintro _ h' ⟨rfl, rfl⟩
 repeat (first | rw [ko] | rw [kr] | simp -dsimp -implicitDefEqProofs only [go_sem])
 exact ⟨le_push (H2.le_push1 h _), ⟨_, rfl⟩, by rw [allI, List.all_eq_not_any_not]⟩
theorem l05All_ok {f : Adr} {zs : List Int} {x y : Int} {h : H2} (hn0 : zs.length ≤ 9223372036854775807) :
  PW Tryz.prog W0 102 [.sl f 1 (ints zs), .raw (.int .i64 x), .raw (.int .i64 y)] h (fun r => r = .raw (.bool (allI zs x y))) := by
 refine PW.scalar ?_
 refine begins [[0, 1, 2], [0, 1, 2], [0, 1, 2, 7], [0, 1, 2, 7], [0, 1, 2, 7], [], []] Tryz.func102 rfl (rs := [.tmp 6]) rfl rfl ?_
 intro wf
 repeat (first | rw [ko] | rw [kr] | simp -dsimp -implicitDefEqProofs only [go_sem, sQ1])
 refine lz_keep [0, 1, 2] (fun m e h' => h' = h ∧ ∃ k : Nat, look e 7 .mk = .raw (.int .i64 k) ∧ m + k = zs.length ∧ ∀ j : Nat, j < k → inI (zs.getD j default) x y = true) zs.length ?_ ?_
 ·exact ⟨rfl, 0, zsm, by omega, fun j hj => by omega⟩
 ·rintro m e h hks ⟨rfl, k, e4, hk, hpre⟩
  simp -dsimp -implicitDefEqProofs only [go_sem, sQ1] at hks
  repeat (first | rw [ko] | rw [kr] | simp -dsimp -implicitDefEqProofs only [go_sem, sQ1, hks, e4])
  refine gz_dec (fun h2 => ?_) (fun h2 => ?_)
  ·have h3 : k < zs.length := by omega
   repeat (first | rw [ko] | rw [kr] | simp -dsimp -implicitDefEqProofs only [go_sem, sQ1, h3])
   refine wz_intro l01In_ok ?_
   rintro _ h' ⟨rfl, rfl⟩
   cases hi : inI (zs.getD k default) x y
   ·repeat (first | rw [ko] | rw [kr] | simp -dsimp -implicitDefEqProofs only [go_sem])
    exact ⟨H2.le.refl _, ⟨_, rfl⟩, by rw [allI, all_none h3 hi]⟩
   ·repeat (first | rw [ko] | rw [kr] | simp -dsimp -implicitDefEqProofs only [go_sem, sQ1, wrap_succ h3 hn0])
    refine nx_keep (m - 1) (by omega) zsm ⟨rfl, k + 1, zsm, by omega, fun j hj => ?_⟩
    by_cases hji : j = k
    ·subst hji; exact hi
    ·exact hpre j (by omega)
  ·repeat (first | rw [ko] | rw [kr] | simp -dsimp -implicitDefEqProofs only [go_sem])
   exact ⟨H2.le.refl _, ⟨_, rfl⟩, by rw [allI, all_getD fun j hj => hpre j (by omega)]⟩
end Go.Bi
end
section
set_option maxRecDepth 20000
namespace Go.Bi
open Go.Proofs
open Go.Ai (wrap_i64 Heap)
variable {W0 : World} {P : Program}
set_option maxHeartbeats 2000000
def widthB (n : Int) : Bool := inI n 4 8 && decide (Int.tmod n 4 = 0)
def rowB (r s : List Int) : Bool := widthB r.length && (allI r (-8) 7 && (decide ((s.length : Int) = Int.tdiv r.length 4) && allI s 1 127))
def gainB (r : List Int) (n : Int) : Bool := decide ((r.length : Int) = n) && allI r 0 127
theorem isWidth_ok {n : Int} {h : H2} : WC2 Tryz.prog W0 117 [.raw (.int .i64 n)] h (fun v h' => v = .raw (.bool (widthB n)) ∧ h' = h) := by
 refine begins [[0], [0]] Tryz.func117 rfl (rs := [.tmp 2]) rfl rfl ?_
 intro wf
 repeat (first | rw [ko] | rw [kr] | simp -dsimp -implicitDefEqProofs only [go_sem])
 refine wz_intro in_ok ?_
 rintro _ h' ⟨rfl, rfl⟩
 cases hb : inI n 4 8
 ·repeat (first | rw [ko] | rw [kr] | simp -dsimp -implicitDefEqProofs only [go_sem])
  exact ⟨by rw [widthB, hb]; rfl, rfl⟩
 ·repeat (first | rw [ko] | rw [kr] | simp -dsimp -implicitDefEqProofs only [go_sem, sQ1, sQ7])
  exact ⟨by rw [widthB, hb]; rfl, rfl⟩
theorem l05Width_ok {n : Int} {h : H2} : WC2 Tryz.prog W0 98 [.raw (.int .i64 n)] h (fun v h' => v = .raw (.bool (widthB n)) ∧ h' = h) := by
 refine begins [[0], [0]] Tryz.func98 rfl (rs := [.tmp 2]) rfl rfl ?_
 intro wf
 repeat (first | rw [ko] | rw [kr] | simp -dsimp -implicitDefEqProofs only [go_sem])
 refine wz_intro l01In_ok ?_
 rintro _ h' ⟨rfl, rfl⟩
 cases hb : inI n 4 8
 ·repeat (first | rw [ko] | rw [kr] | simp -dsimp -implicitDefEqProofs only [go_sem])
  exact ⟨by rw [widthB, hb]; rfl, rfl⟩
 ·repeat (first | rw [ko] | rw [kr] | simp -dsimp -implicitDefEqProofs only [go_sem, sQ1, sQ7])
  exact ⟨by rw [widthB, hb]; rfl, rfl⟩
theorem width_rng {n : Int} (h : widthB n = true) : n = 4 ∨ n = 8 := by
 unfold widthB inI at h
 simp only [Bool.and_eq_true, decide_eq_true_eq] at h
 obtain ⟨⟨h1, h2⟩, h3⟩ := h
 have h4 : n = 4 ∨ n = 5 ∨ n = 6 ∨ n = 7 ∨ n = 8 := by omega
 rcases h4 with rfl | rfl | rfl | rfl | rfl <;> first | exact .inl rfl | exact .inr rfl | exact absurd h3 (by decide)
theorem quo_len {n : Nat} (h : widthB n = true) : IntKind.i64.wrap (Int.tdiv (n : Int) 4) = Int.tdiv (n : Int) 4 := by
 rcases width_rng h with h | h <;> rw [h] <;> decide
theorem rowOk_ok {f f' : Adr} {r s : List Int} {g : H2} (hr : r.length ≤ 1048576) (hs : s.length ≤ 1048576) : PW Tryz.prog W0 215 [.sl f 1 (ints r), .sl f' 1 (ints s)] g (fun y => y = .raw (.bool (rowB r s))) := by
 refine PW.scalar ?_
 refine begins [[0, 1], [0, 1]] Tryz.func215 rfl (rs := [.tmp 4]) rfl rfl ?_
 intro wf
 repeat (first | rw [ko] | rw [kr] | simp -dsimp -implicitDefEqProofs only [go_sem])
 refine wz_intro isWidth_ok ?_
 rintro _ h' ⟨rfl, rfl⟩
 cases h1 : widthB r.length
 ·repeat (first | rw [ko] | rw [kr] | simp -dsimp -implicitDefEqProofs only [go_sem, sQ1])
  exact ⟨H2.le.refl _, ⟨_, rfl⟩, by rw [rowB, h1]; rfl⟩
 repeat (first | rw [ko] | rw [kr] | simp -dsimp -implicitDefEqProofs only [go_sem, sQ1])
 refine pw_intro (allIn_ok (by omega)) ?_
 rintro _ n1 hn1 rfl
 cases h2 : allI r (-8) 7
 ·repeat (first | rw [ko] | rw [kr] | simp -dsimp -implicitDefEqProofs only [go_sem, sQ1])
  exact ⟨le_up (H2.le.refl _) hn1, ⟨_, rfl⟩, by rw [rowB, h1, h2]; rfl⟩
 have w1 := quo_len h1
 by_cases h3 : (s.length : Int) = Int.tdiv r.length 4
 ·have d3 : decide ((s.length : Int) = Int.tdiv r.length 4) = true := decide_eq_true h3
  repeat (first | rw [ko] | rw [kr] | simp -dsimp -implicitDefEqProofs only [go_sem, sQ1, sQ7, w1, d3])
  refine pw_intro (allIn_ok (by omega)) ?_
  rintro _ n2 hn2 rfl
  rw [hn_up] at hn2
  repeat (first | rw [ko] | rw [kr] | simp -dsimp -implicitDefEqProofs only [go_sem])
  exact ⟨le_up (le_up (H2.le.refl _) hn1) (by rw [hn_up]; exact hn2), ⟨_, rfl⟩, by rw [rowB, h1, h2, d3]; rfl⟩
 ·have d3 : decide ((s.length : Int) = Int.tdiv r.length 4) = false := decide_eq_false h3
  repeat (first | rw [ko] | rw [kr] | simp -dsimp -implicitDefEqProofs only [go_sem, sQ1, sQ7, w1, d3])
  exact ⟨le_up (H2.le.refl _) hn1, ⟨_, rfl⟩, by rw [rowB, h1, h2, d3]; rfl⟩
theorem l05Fits_ok {f f' : Adr} {r s : List Int} {g : H2} (hr : r.length ≤ 1048576) (hs : s.length ≤ 1048576) : PW Tryz.prog W0 201 [.sl f 1 (ints r), .sl f' 1 (ints s)] g (fun y => y = .raw (.bool (rowB r s))) := by
 refine PW.scalar ?_
 refine begins [[0, 1], [0, 1]] Tryz.func201 rfl (rs := [.tmp 4]) rfl rfl ?_
 intro wf
 repeat (first | rw [ko] | rw [kr] | simp -dsimp -implicitDefEqProofs only [go_sem])
 refine wz_intro l05Width_ok ?_
 rintro _ h' ⟨rfl, rfl⟩
 cases h1 : widthB r.length
 ·repeat (first | rw [ko] | rw [kr] | simp -dsimp -implicitDefEqProofs only [go_sem, sQ1])
  exact ⟨H2.le.refl _, ⟨_, rfl⟩, by rw [rowB, h1]; rfl⟩
 repeat (first | rw [ko] | rw [kr] | simp -dsimp -implicitDefEqProofs only [go_sem, sQ1])
 refine pw_intro (l05All_ok (by omega)) ?_
 rintro _ n1 hn1 rfl
 cases h2 : allI r (-8) 7
 ·repeat (first | rw [ko] | rw [kr] | simp -dsimp -implicitDefEqProofs only [go_sem, sQ1])
  exact ⟨le_up (H2.le.refl _) hn1, ⟨_, rfl⟩, by rw [rowB, h1, h2]; rfl⟩
 have w1 := quo_len h1
 by_cases h3 : (s.length : Int) = Int.tdiv r.length 4
 ·have d3 : decide ((s.length : Int) = Int.tdiv r.length 4) = true := decide_eq_true h3
  repeat (first | rw [ko] | rw [kr] | simp -dsimp -implicitDefEqProofs only [go_sem, sQ1, sQ7, w1, d3])
  refine pw_intro (l05All_ok (by omega)) ?_
  rintro _ n2 hn2 rfl
  rw [hn_up] at hn2
  repeat (first | rw [ko] | rw [kr] | simp -dsimp -implicitDefEqProofs only [go_sem])
  exact ⟨le_up (le_up (H2.le.refl _) hn1) (by rw [hn_up]; exact hn2), ⟨_, rfl⟩, by rw [rowB, h1, h2, d3]; rfl⟩
 ·have d3 : decide ((s.length : Int) = Int.tdiv r.length 4) = false := decide_eq_false h3
  repeat (first | rw [ko] | rw [kr] | simp -dsimp -implicitDefEqProofs only [go_sem, sQ1, sQ7, w1, d3])
  exact ⟨le_up (H2.le.refl _) hn1, ⟨_, rfl⟩, by rw [rowB, h1, h2, d3]; rfl⟩
theorem implGain_ok {f : Adr} {r : List Int} {n : Int} {g : H2} (hr : r.length ≤ 1048576) : PW Tryz.prog W0 127 [.sl f 1 (ints r), .raw (.int .i64 n)] g (fun y => y = .raw (.bool (gainB r n))) := by
 refine PW.scalar ?_
 refine begins [[0, 1], [0, 1]] Tryz.func127 rfl (rs := [.tmp 4]) rfl rfl ?_
 intro wf
 by_cases h1 : (r.length : Int) = n
 ·have d1 : decide ((r.length : Int) = n) = true := decide_eq_true h1
  repeat (first | rw [ko] | rw [kr] | simp -dsimp -implicitDefEqProofs only [go_sem, sQ1, d1])
  refine pw_intro (allIn_ok (by omega)) ?_
  rintro _ n1 hn1 rfl
  repeat (first | rw [ko] | rw [kr] | simp -dsimp -implicitDefEqProofs only [go_sem])
  exact ⟨le_up (H2.le.refl _) hn1, ⟨_, rfl⟩, by rw [gainB, d1]; rfl⟩
 ·have d1 : decide ((r.length : Int) = n) = false := decide_eq_false h1
  repeat (first | rw [ko] | rw [kr] | simp -dsimp -implicitDefEqProofs only [go_sem, sQ1, d1])
  exact ⟨H2.le.refl _, ⟨_, rfl⟩, by rw [gainB, d1]; rfl⟩
theorem specGain_ok {f : Adr} {r : List Int} {n : Int} {g : H2} (hr : r.length ≤ 1048576) : PW Tryz.prog W0 104 [.sl f 1 (ints r), .raw (.int .i64 n)] g (fun y => y = .raw (.bool (gainB r n))) := by
 refine PW.scalar ?_
 refine begins [[0, 1], [0, 1]] Tryz.func104 rfl (rs := [.tmp 4]) rfl rfl ?_
 intro wf
 by_cases h1 : (r.length : Int) = n
 ·have d1 : decide ((r.length : Int) = n) = true := decide_eq_true h1
  repeat (first | rw [ko] | rw [kr] | simp -dsimp -implicitDefEqProofs only [go_sem, sQ1, d1])
  refine pw_intro (l05All_ok (by omega)) ?_
  rintro _ n1 hn1 rfl
  repeat (first | rw [ko] | rw [kr] | simp -dsimp -implicitDefEqProofs only [go_sem])
  exact ⟨le_up (H2.le.refl _) hn1, ⟨_, rfl⟩, by rw [gainB, d1]; rfl⟩
 ·have d1 : decide ((r.length : Int) = n) = false := decide_eq_false h1
  repeat (first | rw [ko] | rw [kr] | simp -dsimp -implicitDefEqProofs only [go_sem, sQ1, d1])
  exact ⟨H2.le.refl _, ⟨_, rfl⟩, by rw [gainB, d1]; rfl⟩
end Go.Bi
end
section
set_option maxRecDepth 20000
namespace Go.Bi
open Go.Proofs
open Go.Ai (wrap_i64 Heap)
variable {W0 : World} {P : Program}
set_option maxHeartbeats 2000000
def absZ (x : Int) : Int := if x < 0 then -x else x
def worstT (r s : List Int) : Nat → Int
 | 0 => 0
 | k + 1 => worstT r s k + s.getD (k / 4) default * 127 * absZ (r.getD k default)
def worstI (r s : List Int) : Int := if rowB r s = true then worstT r s r.length else 0
theorem row_facts {r s : List Int} (h : rowB r s = true) : (r.length = 4 ∨ r.length = 8) ∧ r.length = 4 * s.length ∧ (∀ z ∈ r, -8 ≤ z ∧ z ≤ 7) ∧ ∀ z ∈ s, 1 ≤ z ∧ z ≤ 127 := by
 unfold rowB at h
 simp only [Bool.and_eq_true, decide_eq_true_eq, allI, List.all_eq_true, inI] at h
 obtain ⟨h1, h2, h3, h4⟩ := h
 have hw := width_rng h1
 have e4 : Int.tdiv (4 : Int) 4 = 1 := by decide
 have e8 : Int.tdiv (8 : Int) 4 = 2 := by decide
 refine ⟨by omega, ?_, fun z hz => h2 z hz, fun z hz => h4 z hz⟩
 rcases hw with hw | hw <;> rw [hw] at h3 <;> omega
theorem getD_memZ {l : List Int} {i : Nat} (h : i < l.length) : l.getD i default ∈ l := by
 rw [List.getD_eq_getElem?_getD, List.getElem?_eq_getElem h]; exact List.getElem_mem h
theorem term_rng {r s : List Int} (h : rowB r s = true) {k : Nat} (hk : k < r.length) : (1 ≤ s.getD (k / 4) default ∧ s.getD (k / 4) default ≤ 127) ∧ (-8 ≤ r.getD k default ∧ r.getD k default ≤ 7) ∧ (0 ≤ absZ (r.getD k default) ∧ absZ (r.getD k default) ≤ 8) ∧ 0 ≤ s.getD (k / 4) default * 127 * absZ (r.getD k default) ∧ s.getD (k / 4) default * 127 * absZ (r.getD k default) ≤ 129032 := by
 obtain ⟨hl, hs, hr, hsc⟩ := row_facts h
 have h1 := hr _ (getD_memZ hk)
 have h2 := hsc _ (getD_memZ (show k / 4 < s.length by omega))
 have h3 : 0 ≤ absZ (r.getD k default) ∧ absZ (r.getD k default) ≤ 8 := by unfold absZ; split <;> omega
 refine ⟨h2, h1, h3, Int.mul_nonneg (by omega) h3.1, ?_⟩
 have := Int.mul_le_mul (show s.getD (k / 4) default * 127 ≤ 16129 by omega) h3.2 h3.1 (by omega)
 omega
theorem worstT_rng {r s : List Int} (h : rowB r s = true) : ∀ {k : Nat}, k ≤ r.length → 0 ≤ worstT r s k ∧ worstT r s k ≤ 129032 * (k : Int)
 | 0, _ => by simp [worstT]
 | k + 1, hk => by
  have h1 := worstT_rng h (k := k) (by omega)
  have h2 := (term_rng h (show k < r.length by omega)).2.2.2
  rw [worstT]
  omega
theorem implWorst_ok {f f' : Adr} {r s : List Int} {g : H2} (hr : r.length ≤ 1048576) (hs : s.length ≤ 1048576) : PW Tryz.prog W0 177 [.sl f 1 (ints r), .sl f' 1 (ints s)] g (fun y => y = .raw (.int .i64 (worstI r s))) := by
 refine PW.scalar ?_
 refine begins [[0, 1], [0, 1], [], [0, 1], [0, 1, 5], [1, 5, 12, 13, 14], [1, 5, 12, 13, 14], [1, 5, 6, 7, 12, 13, 14], [1, 5, 12, 13, 14], [5]] Tryz.func177 rfl (rs := [.tmp 4]) rfl rfl ?_
 intro wf
 repeat (first | rw [ko] | rw [kr] | simp -dsimp -implicitDefEqProofs only [go_sem, sQ1])
 refine pw_intro (rowOk_ok hr hs) ?_
 rintro _ n1 hn1 rfl
 cases h1 : rowB r s
 ·repeat (first | rw [ko] | rw [kr] | simp -dsimp -implicitDefEqProofs only [go_sem])
  exact ⟨le_up (H2.le.refl _) hn1, ⟨_, rfl⟩, by rw [worstI, h1]; rfl⟩
 repeat (first | rw [ko] | rw [kr] | simp -dsimp -implicitDefEqProofs only [go_sem, sQ1])
 have hfa := row_facts h1
 refine lz_keep [1, 12, 13] (fun m e h' => ∃ (i : Nat), h' = g.up n1 ∧ look e 14 .mk = .raw (.int .i64 (i : Nat)) ∧ look e 5 .mk = .raw (.int .i64 (worstT r s i)) ∧ m + i = r.length) r.length ?_ ?_
 ·exact ⟨0, rfl, zsm, by simp -dsimp -implicitDefEqProofs only [go_sem, sQ1] <;> rfl, by omega⟩
 ·rintro m e h' hks ⟨i, rfl, e14, e5, hm⟩
  simp -dsimp -implicitDefEqProofs only [go_sem, sQ1] at hks
  by_cases h2 : (i : Int) < (r.length : Int)
  ·have h3 : i < r.length := by omega
   obtain ⟨t1, t2, t3, t4, t5⟩ := term_rng h1 h3
   have t6 := worstT_rng h1 (k := i) (by omega)
   have w1 := zwrs i (by omega)
   have w2 : IntKind.i64.wrap (Int.tdiv (i : Int) 4) = ((i / 4 : Nat) : Int) := by
    rw [show Int.tdiv (i : Int) 4 = ((i / 4 : Nat) : Int) from rfl, wrap_i64] <;> omega
   have h4 : i / 4 < s.length := by omega
   have w3 : IntKind.i64.wrap (s.getD (i / 4) default * 127) = s.getD (i / 4) default * 127 := by rw [wrap_i64] <;> omega
   have w4 : IntKind.i64.wrap (0 - (r.getD i default)) = -(r.getD i default) := by rw [wrap_i64] <;> omega
   have w7 : Go.Ai.mxI (r.getD i default) (-(r.getD i default)) = absZ (r.getD i default) := by unfold Go.Ai.mxI absZ; split <;> split <;> omega
   have w5 : IntKind.i64.wrap (s.getD (i / 4) default * 127 * absZ (r.getD i default)) = s.getD (i / 4) default * 127 * absZ (r.getD i default) := by rw [wrap_i64] <;> omega
   have w6 : IntKind.i64.wrap (worstT r s i + s.getD (i / 4) default * 127 * absZ (r.getD i default)) = worstT r s (i + 1) := by rw [worstT, wrap_i64] <;> omega
   repeat (first | rw [ko] | rw [kr] | simp -dsimp -implicitDefEqProofs only [go_sem, sQ1, sQ7, hks, e14, e5, h2, h3, h4, w2, w3, w4, w5, w6, w7, w1])
   exact nx_keep (m - 1) (by omega) zsm ⟨i + 1, rfl, zsm, zsm, by omega⟩
  ·obtain rfl : i = r.length := by omega
   repeat (first | rw [ko] | rw [kr] | simp -dsimp -implicitDefEqProofs only [go_sem, sQ1, hks, e14, e5, h2])
   exact ⟨le_up (H2.le.refl _) hn1, ⟨_, rfl⟩, by rw [worstI, h1]; rfl⟩
theorem abs_ok {x : Int} {g : H2} (hx : -1000000 ≤ x ∧ x ≤ 1000000) : WC2 Tryz.prog W0 161 [.raw (.int .i64 x)] g (fun v g' => v = .raw (.int .i64 (absZ x)) ∧ g' = g) := by
 refine begins [[0], [0], [0], [0]] Tryz.func161 rfl (rs := [.tmp 2]) rfl rfl ?_
 intro wf
 repeat (first | rw [ko] | rw [kr] | simp -dsimp -implicitDefEqProofs only [go_sem])
 have w1 : IntKind.i64.wrap (0 - x) = -x := by rw [wrap_i64] <;> omega
 refine gz_dec (fun h1 => ?_) (fun h1 => ?_)
 ·repeat (first | rw [ko] | rw [kr] | simp -dsimp -implicitDefEqProofs only [go_sem, w1])
  exact ⟨by rw [absZ, if_pos h1], rfl⟩
 ·repeat (first | rw [ko] | rw [kr] | simp -dsimp -implicitDefEqProofs only [go_sem])
  exact ⟨by rw [absZ, if_neg h1], rfl⟩
theorem specWorst_ok {f f' : Adr} {r s : List Int} {g : H2} (hr : r.length ≤ 1048576) (hs : s.length ≤ 1048576) : PW Tryz.prog W0 202 [.sl f 1 (ints r), .sl f' 1 (ints s)] g (fun y => y = .raw (.int .i64 (worstI r s))) := by
 refine PW.scalar ?_
 refine begins [[0, 1], [0, 1], [], [0, 1], [0, 1, 5], [0, 1, 5, 6], [0, 1, 5, 6], [0, 1, 5, 6], [5]] Tryz.func202 rfl (rs := [.tmp 4]) rfl rfl ?_
 intro wf
 repeat (first | rw [ko] | rw [kr] | simp -dsimp -implicitDefEqProofs only [go_sem, sQ1])
 refine pw_intro (l05Fits_ok hr hs) ?_
 rintro _ n1 hn1 rfl
 cases h1 : rowB r s
 ·repeat (first | rw [ko] | rw [kr] | simp -dsimp -implicitDefEqProofs only [go_sem])
  exact ⟨le_up (H2.le.refl _) hn1, ⟨_, rfl⟩, by rw [worstI, h1]; rfl⟩
 repeat (first | rw [ko] | rw [kr] | simp -dsimp -implicitDefEqProofs only [go_sem, sQ1])
 have hfa := row_facts h1
 refine lz_keep [0, 1] (fun m e h' => ∃ (i : Nat), h' = g.up n1 ∧ look e 6 .mk = .raw (.int .i64 (i : Nat)) ∧ look e 5 .mk = .raw (.int .i64 (worstT r s i)) ∧ m + i = r.length) r.length ?_ ?_
 ·exact ⟨0, rfl, zsm, by simp -dsimp -implicitDefEqProofs only [go_sem] <;> rfl, by omega⟩
 ·rintro m e h' hks ⟨i, rfl, e6, e5, hm⟩
  simp -dsimp -implicitDefEqProofs only [go_sem, sQ1] at hks
  by_cases h2 : (i : Int) < (r.length : Int)
  ·have h3 : i < r.length := by omega
   obtain ⟨t1, t2, t3, t4, t5⟩ := term_rng h1 h3
   have t6 := worstT_rng h1 (k := i) (by omega)
   have w1 := zwrs i (by omega)
   have w2 : IntKind.i64.wrap (Int.tdiv (i : Int) 4) = ((i / 4 : Nat) : Int) := by
    rw [show Int.tdiv (i : Int) 4 = ((i / 4 : Nat) : Int) from rfl, wrap_i64] <;> omega
   have h4 : i / 4 < s.length := by omega
   have w3 : IntKind.i64.wrap (s.getD (i / 4) default * 127) = s.getD (i / 4) default * 127 := by rw [wrap_i64] <;> omega
   have w5 : IntKind.i64.wrap (s.getD (i / 4) default * 127 * absZ (r.getD i default)) = s.getD (i / 4) default * 127 * absZ (r.getD i default) := by rw [wrap_i64] <;> omega
   have w6 : IntKind.i64.wrap (worstT r s i + s.getD (i / 4) default * 127 * absZ (r.getD i default)) = worstT r s (i + 1) := by rw [worstT, wrap_i64] <;> omega
   repeat (first | rw [ko] | rw [kr] | simp -dsimp -implicitDefEqProofs only [go_sem, sQ1, hks, e6, e5, h2])
   refine dq_intro [(0, []), (1, []), (2, []), (3, []), (4, []), (5, []), (6, []), (7, []), (8, []), (9, []), (10, []), (11, [5]), (12, []), (13, []), (14, [])] (by kernel_rfl) ?_
   repeat (first | rw [ko] | rw [kr] | simp -dsimp -implicitDefEqProofs only [go_sem, sQ1, sQ7, h3, h4, w2, w3])
   refine wz_intro (abs_ok (by omega)) ?_
   rintro _ g' ⟨rfl, rfl⟩
   repeat (first | rw [ko] | rw [kr] | simp -dsimp -implicitDefEqProofs only [go_sem, sQ1, w5, w6, w1])
   exact nx_keep (m - 1) (by omega) zsm ⟨i + 1, rfl, zsm, zsm, by omega⟩
  ·obtain rfl : i = r.length := by omega
   repeat (first | rw [ko] | rw [kr] | simp -dsimp -implicitDefEqProofs only [go_sem, sQ1, hks, e6, e5, h2])
   exact ⟨le_up (H2.le.refl _) hn1, ⟨_, rfl⟩, by rw [worstI, h1]; rfl⟩
end Go.Bi
end
section
set_option maxRecDepth 20000
namespace Go.Bi
open Go.Proofs
open Go.Ai (wrap_i64 Heap)
variable {W0 : World} {P : Program}
set_option maxHeartbeats 4000000
def lineB (m : LMatrix) (i : Nat) : Bool := decide (((m.rows.getD i default).length : Int) = m.width) && rowB (m.rows.getD i default) (m.scales.getD i default)
def matB (m : LMatrix) : Bool := widthB m.width && (decide ((m.rows.length : Int) ≤ 300) && (decide ((m.scales.length : Int) = m.rows.length) && (inI m.mul 0 65536 && (inI m.shift 0 24 && (List.range m.rows.length).all (lineB m)))))
def smallL (l : List (List Int)) : Prop := l.length ≤ 1048576 ∧ ∀ r ∈ l, r.length ≤ 1048576
def smallM (m : LMatrix) : Prop := smallL m.rows ∧ smallL m.scales
theorem smallL_at {l : List (List Int)} (h : smallL l) (i : Nat) : (l.getD i default).length ≤ 1048576 := by
 by_cases hi : i < l.length
 ·refine h.2 _ ?_
  rw [List.getD_eq_getElem?_getD, List.getElem?_eq_getElem hi]; exact List.getElem_mem hi
 ·rw [List.getD_eq_getElem?_getD, List.getElem?_eq_none (by omega)]; show 0 ≤ _; omega
theorem range_all {n : Nat} {p : Nat → Bool} (h : ∀ i, i < n → p i = true) : (List.range n).all p = true := by
 rw [List.all_eq_true]; intro i hi; exact h i (List.mem_range.1 hi)
theorem range_bad {n i : Nat} {p : Nat → Bool} (hi : i < n) (h : p i = false) : (List.range n).all p = false := by
 rw [List.all_eq_false]; exact ⟨i, List.mem_range.2 hi, by rw [h]; simp⟩
theorem implMatrix_ok {F : Nat → Adr} {m : LMatrix} {g : H2} (hsm : smallM m) : PW Tryz.prog W0 176 [.st (xMatrix F m)] g (fun y => y = .raw (.bool (matB m))) := by
 obtain ⟨⟨hr1, hr2⟩, hs1, hs2⟩ := id hsm
 refine PW.scalar ?_
 refine begins [[0], [1], [], [1], [1, 37, 38, 39], [1, 37, 38, 39], [1, 3, 4, 37, 38, 39], [], [1, 37, 38, 39], []] Tryz.func176 rfl (rs := [.tmp 2]) rfl rfl ?_
 intro wf
 repeat (first | rw [ko] | rw [kr] | simp -dsimp -implicitDefEqProofs only [go_sem, hoo])
 refine wz_intro isWidth_ok ?_
 rintro _ _ ⟨rfl, rfl⟩
 cases h1 : widthB m.width
 ·repeat (first | rw [ko] | rw [kr] | simp -dsimp -implicitDefEqProofs only [go_sem, sQ1, hoo])
  exact ⟨le_push (H2.le.refl _), ⟨_, rfl⟩, by rw [matB, h1]; rfl⟩
 by_cases h2 : (m.rows.length : Int) > 300
 ·repeat (first | rw [ko] | rw [kr] | simp -dsimp -implicitDefEqProofs only [go_sem, sQ1, hoo, h2])
  exact ⟨le_push (H2.le.refl _), ⟨_, rfl⟩, by rw [matB, h1, decide_eq_false (show ¬ (m.rows.length : Int) ≤ 300 by omega)]; rfl⟩
 have d2 : decide ((m.rows.length : Int) ≤ 300) = true := decide_eq_true (by omega)
 by_cases h3 : (m.scales.length : Int) = m.rows.length
 rotate_left
 ·have d3 : decide ((m.scales.length : Int) = m.rows.length) = false := decide_eq_false h3
  have e3 : decide (¬ (m.scales.length : Int) = m.rows.length) = true := decide_eq_true h3
  repeat (first | rw [ko] | rw [kr] | simp -dsimp -implicitDefEqProofs only [go_sem, sQ1, hoo, h2, e3])
  exact ⟨le_push (H2.le.refl _), ⟨_, rfl⟩, by rw [matB, h1, d2, d3]; rfl⟩
 have d3 : decide ((m.scales.length : Int) = m.rows.length) = true := decide_eq_true h3
 have e3 : decide (¬ (m.scales.length : Int) = m.rows.length) = false := decide_eq_false (fun h => h h3)
 repeat (first | rw [ko] | rw [kr] | simp -dsimp -implicitDefEqProofs only [go_sem, sQ1, hoo, h2, e3])
 refine wz_intro in_ok ?_
 rintro _ _ ⟨rfl, rfl⟩
 cases h4 : inI m.mul 0 65536
 ·repeat (first | rw [ko] | rw [kr] | simp -dsimp -implicitDefEqProofs only [go_sem, hoo])
  exact ⟨le_push (H2.le.refl _), ⟨_, rfl⟩, by rw [matB, h1, d2, d3, h4]; rfl⟩
 repeat (first | rw [ko] | rw [kr] | simp -dsimp -implicitDefEqProofs only [go_sem, sQ1, hoo])
 refine wz_intro in_ok ?_
 rintro _ _ ⟨rfl, rfl⟩
 cases h5 : inI m.shift 0 24
 ·repeat (first | rw [ko] | rw [kr] | simp -dsimp -implicitDefEqProofs only [go_sem, hoo])
  exact ⟨le_push (H2.le.refl _), ⟨_, rfl⟩, by rw [matB, h1, d2, d3, h4, h5]; rfl⟩
 repeat (first | rw [ko] | rw [kr] | simp -dsimp -implicitDefEqProofs only [go_sem, sQ1, hoo])
 have hB : matB m = (List.range m.rows.length).all (lineB m) := by rw [matB, h1, d2, d3, h4, h5]; rfl
 refine lz_keep [1, 37, 38] (fun mm e h' => ∃ (i : Nat), g.le h' ∧ hg h' (hn g .mk) .mk = some ⟨5, [.raw (.int .i64 m.width), .sl (F 1) 1 (rIntSS m.rows), .sl (F 2) 1 (rIntSS m.scales), .raw (.int .i64 m.mul), .raw (.int .i64 m.shift)]⟩ ∧ look e 39 .mk = .raw (.int .i64 (i : Nat)) ∧ mm + i = m.rows.length ∧ ∀ j, j < i → lineB m j = true) m.rows.length ?_ ?_
 ·exact ⟨0, le_push (H2.le.refl _), by simp -dsimp -implicitDefEqProofs only [go_sem, hoo], zsm, by omega, fun j hj => by omega⟩
 ·rintro mm e h' hks ⟨i, hle, row, ei, hm, hpre⟩
  simp -dsimp -implicitDefEqProofs only [go_sem, sQ1] at hks
  by_cases q1 : (i : Int) < (m.rows.length : Int)
  ·have q2 : i < m.rows.length := by omega
   have q3 : i < m.scales.length := by omega
   have w1 := zwrs i (by omega)
   by_cases q4 : ((m.rows.getD i default).length : Int) = m.width
   ·have d4 : decide (((m.rows.getD i default).length : Int) = m.width) = true := decide_eq_true q4
    have e4 : decide (¬ ((m.rows.getD i default).length : Int) = m.width) = false := decide_eq_false (fun h => h q4)
    repeat (first | rw [ko] | rw [kr] | simp -dsimp -implicitDefEqProofs only [go_sem, sQ1, hks, ei, q1, q2, q3, e4, row])
    refine pw_intro (rowOk_ok (smallL_at hsm.1 i) (smallL_at hsm.2 i)) ?_
    rintro _ n3 hn3 rfl
    cases q5 : rowB (m.rows.getD i default) (m.scales.getD i default)
    ·repeat (first | rw [ko] | rw [kr] | simp -dsimp -implicitDefEqProofs only [go_sem, sQ1])
     exact ⟨le_up hle hn3, ⟨_, rfl⟩, by rw [hB, range_bad q2 (by rw [lineB, d4, q5]; rfl)]⟩
    ·repeat (first | rw [ko] | rw [kr] | simp -dsimp -implicitDefEqProofs only [go_sem, sQ1, w1])
     refine nx_keep (mm - 1) (by omega) zsm ⟨i + 1, le_up hle hn3, by simp -dsimp -implicitDefEqProofs only [go_sem, row], zsm, by omega, fun j hj => ?_⟩
     by_cases hji : j = i
     ·subst hji; rw [lineB, d4, q5]; rfl
     ·exact hpre j (by omega)
   ·have d4 : decide (((m.rows.getD i default).length : Int) = m.width) = false := decide_eq_false q4
    have e4 : decide (¬ ((m.rows.getD i default).length : Int) = m.width) = true := decide_eq_true q4
    repeat (first | rw [ko] | rw [kr] | simp -dsimp -implicitDefEqProofs only [go_sem, sQ1, hks, ei, q1, q2, e4, row])
    exact ⟨hle, ⟨_, rfl⟩, by rw [hB, range_bad q2 (by rw [lineB, d4]; rfl)]⟩
  ·repeat (first | rw [ko] | rw [kr] | simp -dsimp -implicitDefEqProofs only [go_sem, hks, ei, q1])
   exact ⟨hle, ⟨_, rfl⟩, by rw [hB, range_all fun j hj => hpre j (by omega)]⟩
theorem specMatrix_ok {F : Nat → Adr} {m : LMatrix} {g : H2} (hsm : smallM m) : PW Tryz.prog W0 152 [.st (xMatrix F m)] g (fun y => y = .raw (.bool (matB m))) := by
 obtain ⟨⟨hr1, hr2⟩, hs1, hs2⟩ := id hsm
 refine PW.scalar ?_
 refine begins [[0], [1], [], [1], [1, 3], [1, 3], [1, 3], [], []] Tryz.func152 rfl (rs := [.tmp 2]) rfl rfl ?_
 intro wf
 repeat (first | rw [ko] | rw [kr] | simp -dsimp -implicitDefEqProofs only [go_sem, hoo])
 refine wz_intro l05Width_ok ?_
 rintro _ _ ⟨rfl, rfl⟩
 cases h1 : widthB m.width
 ·repeat (first | rw [ko] | rw [kr] | simp -dsimp -implicitDefEqProofs only [go_sem, sQ1, hoo])
  exact ⟨le_push (H2.le.refl _), ⟨_, rfl⟩, by rw [matB, h1]; rfl⟩
 by_cases h2 : (m.rows.length : Int) > 300
 ·repeat (first | rw [ko] | rw [kr] | simp -dsimp -implicitDefEqProofs only [go_sem, sQ1, hoo, h2])
  exact ⟨le_push (H2.le.refl _), ⟨_, rfl⟩, by rw [matB, h1, decide_eq_false (show ¬ (m.rows.length : Int) ≤ 300 by omega)]; rfl⟩
 have d2 : decide ((m.rows.length : Int) ≤ 300) = true := decide_eq_true (by omega)
 by_cases h3 : (m.scales.length : Int) = m.rows.length
 rotate_left
 ·have d3 : decide ((m.scales.length : Int) = m.rows.length) = false := decide_eq_false h3
  have e3 : decide (¬ (m.scales.length : Int) = m.rows.length) = true := decide_eq_true h3
  repeat (first | rw [ko] | rw [kr] | simp -dsimp -implicitDefEqProofs only [go_sem, sQ1, hoo, h2, e3])
  exact ⟨le_push (H2.le.refl _), ⟨_, rfl⟩, by rw [matB, h1, d2, d3]; rfl⟩
 have d3 : decide ((m.scales.length : Int) = m.rows.length) = true := decide_eq_true h3
 have e3 : decide (¬ (m.scales.length : Int) = m.rows.length) = false := decide_eq_false (fun h => h h3)
 repeat (first | rw [ko] | rw [kr] | simp -dsimp -implicitDefEqProofs only [go_sem, sQ1, hoo, h2, e3])
 refine wz_intro l01In_ok ?_
 rintro _ _ ⟨rfl, rfl⟩
 cases h4 : inI m.mul 0 65536
 ·repeat (first | rw [ko] | rw [kr] | simp -dsimp -implicitDefEqProofs only [go_sem, hoo])
  exact ⟨le_push (H2.le.refl _), ⟨_, rfl⟩, by rw [matB, h1, d2, d3, h4]; rfl⟩
 repeat (first | rw [ko] | rw [kr] | simp -dsimp -implicitDefEqProofs only [go_sem, sQ1, hoo])
 refine wz_intro l01In_ok ?_
 rintro _ _ ⟨rfl, rfl⟩
 cases h5 : inI m.shift 0 24
 ·repeat (first | rw [ko] | rw [kr] | simp -dsimp -implicitDefEqProofs only [go_sem, hoo])
  exact ⟨le_push (H2.le.refl _), ⟨_, rfl⟩, by rw [matB, h1, d2, d3, h4, h5]; rfl⟩
 repeat (first | rw [ko] | rw [kr] | simp -dsimp -implicitDefEqProofs only [go_sem, sQ1, hoo])
 have hB : matB m = (List.range m.rows.length).all (lineB m) := by rw [matB, h1, d2, d3, h4, h5]; rfl
 refine lz_keep [1] (fun mm e h' => ∃ (i : Nat), g.le h' ∧ hg h' (hn g .mk) .mk = some ⟨5, [.raw (.int .i64 m.width), .sl (F 1) 1 (rIntSS m.rows), .sl (F 2) 1 (rIntSS m.scales), .raw (.int .i64 m.mul), .raw (.int .i64 m.shift)]⟩ ∧ look e 3 .mk = .raw (.int .i64 (i : Nat)) ∧ mm + i = m.rows.length ∧ ∀ j, j < i → lineB m j = true) m.rows.length ?_ ?_
 ·exact ⟨0, le_push (H2.le.refl _), by simp -dsimp -implicitDefEqProofs only [go_sem, hoo], zsm, by omega, fun j hj => by omega⟩
 ·rintro mm e h' hks ⟨i, hle, row, ei, hm, hpre⟩
  simp -dsimp -implicitDefEqProofs only [go_sem] at hks
  by_cases q1 : (i : Int) < (m.rows.length : Int)
  ·have q2 : i < m.rows.length := by omega
   have q3 : i < m.scales.length := by omega
   have w1 := zwrs i (by omega)
   by_cases q4 : ((m.rows.getD i default).length : Int) = m.width
   ·have d4 : decide (((m.rows.getD i default).length : Int) = m.width) = true := decide_eq_true q4
    have e4 : decide (¬ ((m.rows.getD i default).length : Int) = m.width) = false := decide_eq_false (fun h => h q4)
    repeat (first | rw [ko] | rw [kr] | simp -dsimp -implicitDefEqProofs only [go_sem, sQ1, hks, ei, q1, row])
    refine dq_intro [(0, []), (1, []), (2, []), (3, []), (4, []), (5, []), (6, []), (7, []), (8, []), (9, []), (10, []), (11, []), (12, []), (13, []), (14, []), (15, []), (16, []), (17, []), (18, []), (19, []), (20, []), (21, []), (22, [])] (by kernel_rfl) ?_
    repeat (first | rw [ko] | rw [kr] | simp -dsimp -implicitDefEqProofs only [go_sem, sQ1, q2, q3, e4, row])
    refine pw_intro (l05Fits_ok (smallL_at hsm.1 i) (smallL_at hsm.2 i)) ?_
    rintro _ n3 hn3 rfl
    cases q5 : rowB (m.rows.getD i default) (m.scales.getD i default)
    ·repeat (first | rw [ko] | rw [kr] | simp -dsimp -implicitDefEqProofs only [go_sem, sQ1])
     exact ⟨le_up hle hn3, ⟨_, rfl⟩, by rw [hB, range_bad q2 (by rw [lineB, d4, q5]; rfl)]⟩
    ·repeat (first | rw [ko] | rw [kr] | simp -dsimp -implicitDefEqProofs only [go_sem, sQ1, w1])
     refine nx_keep (mm - 1) (by omega) zsm ⟨i + 1, le_up hle hn3, by simp -dsimp -implicitDefEqProofs only [go_sem, row], zsm, by omega, fun j hj => ?_⟩
     by_cases hji : j = i
     ·subst hji; rw [lineB, d4, q5]; rfl
     ·exact hpre j (by omega)
   ·have d4 : decide (((m.rows.getD i default).length : Int) = m.width) = false := decide_eq_false q4
    have e4 : decide (¬ ((m.rows.getD i default).length : Int) = m.width) = true := decide_eq_true q4
    repeat (first | rw [ko] | rw [kr] | simp -dsimp -implicitDefEqProofs only [go_sem, sQ1, hks, ei, q1, row])
    refine dq_intro [(0, []), (1, []), (2, []), (3, []), (4, []), (5, []), (6, []), (7, []), (8, []), (9, []), (10, []), (11, []), (12, []), (13, []), (14, []), (15, []), (16, []), (17, []), (18, []), (19, []), (20, []), (21, []), (22, [])] (by kernel_rfl) ?_
    repeat (first | rw [ko] | rw [kr] | simp -dsimp -implicitDefEqProofs only [go_sem, sQ1, q2, e4, row])
    exact ⟨hle, ⟨_, rfl⟩, by rw [hB, range_bad q2 (by rw [lineB, d4]; rfl)]⟩
  ·repeat (first | rw [ko] | rw [kr] | simp -dsimp -implicitDefEqProofs only [go_sem, sQ1, hks, ei, q1, row])
   exact ⟨hle, ⟨_, rfl⟩, by rw [hB, range_all fun j hj => hpre j (by omega)]⟩
end Go.Bi
end
section
set_option maxRecDepth 20000
namespace Go.Bi
open Go.Proofs
open Go.Ai (wrap_i64 Heap)
variable {W0 : World} {P : Program}
set_option maxHeartbeats 4000000
def lineW (m : LMatrix) (i : Nat) : Int := worstI (m.rows.getD i default) (m.scales.getD i default)
def withB (m : LMatrix) (w n : Int) : Bool := matB m && (decide (m.width = w) && (decide ((m.rows.length : Int) = n) && (List.range m.rows.length).all fun i => decide (lineW m i ≤ 600000)))
def topW (m : LMatrix) : Nat → Int
 | 0 => 0
 | k + 1 => if topW m k < lineW m k then lineW m k else topW m k
theorem topW_le {m : LMatrix} : ∀ {k : Nat}, (topW m k ≤ 600000 ↔ ∀ i, i < k → lineW m i ≤ 600000)
 | 0 => ⟨fun _ i hi => by omega, fun _ => by show (0 : Int) ≤ _; omega⟩
 | k + 1 => by
  have ih := topW_le (m := m) (k := k)
  rw [topW]
  constructor
  ·intro h i hi
   by_cases hik : i = k
   ·subst hik; split at h <;> omega
   ·refine ih.1 ?_ i (by omega)
    split at h <;> omega
  ·intro h
   have h1 := ih.2 fun i hi => h i (by omega)
   have h2 := h k (by omega)
   split <;> omega
theorem mat_len {m : LMatrix} (h : matB m = true) : m.scales.length = m.rows.length := by
 unfold matB at h
 simp only [Bool.and_eq_true, decide_eq_true_eq] at h
 omega
theorem implWithin_ok {F : Nat → Adr} {m : LMatrix} {w n : Int} {g : H2} (hsm : smallM m) : PW Tryz.prog W0 128 [.st (xMatrix F m), .raw (.int .i64 w), .raw (.int .i64 n)] g (fun y => y = .raw (.bool (withB m w n))) := by
 obtain ⟨⟨hr1, hr2⟩, hs1, hs2⟩ := id hsm
 refine PW.scalar ?_
 refine begins [[0, 1, 2], [1, 2, 3], [], [3], [3, 26, 27, 28], [3, 26, 27, 28], [3, 7, 8, 26, 27, 28], [], [3, 26, 27, 28], []] Tryz.func128 rfl (rs := [.tmp 6]) rfl rfl ?_
 intro wf
 repeat (first | rw [ko] | rw [kr] | simp -dsimp -implicitDefEqProofs only [go_sem, sQ1, hoo])
 refine pw_intro (implMatrix_ok (F := F) hsm) ?_
 rintro _ n1 hn1 rfl
 rw [hn_push] at hn1
 have L1 : ∀ k : OB, g.le ((g.push k).up n1) := fun k => le_up (le_push (H2.le.refl _)) (by rw [hn_push]; exact hn1)
 cases h1 : matB m
 ·repeat (first | rw [ko] | rw [kr] | simp -dsimp -implicitDefEqProofs only [go_sem, sQ1, hoo])
  exact ⟨L1 _, ⟨_, rfl⟩, by rw [withB, h1]; rfl⟩
 have hln := mat_len h1
 by_cases h2 : m.width = w
 rotate_left
 ·have d2 : decide (m.width = w) = false := decide_eq_false h2
  have e2 : decide (¬ m.width = w) = true := decide_eq_true h2
  repeat (first | rw [ko] | rw [kr] | simp -dsimp -implicitDefEqProofs only [go_sem, sQ1, hoo, e2])
  exact ⟨L1 _, ⟨_, rfl⟩, by rw [withB, h1, d2]; rfl⟩
 have d2 : decide (m.width = w) = true := decide_eq_true h2
 have e2 : decide (¬ m.width = w) = false := decide_eq_false (fun h => h h2)
 by_cases h3 : (m.rows.length : Int) = n
 rotate_left
 ·have d3 : decide ((m.rows.length : Int) = n) = false := decide_eq_false h3
  have e3 : decide (¬ (m.rows.length : Int) = n) = true := decide_eq_true h3
  repeat (first | rw [ko] | rw [kr] | simp -dsimp -implicitDefEqProofs only [go_sem, sQ1, hoo, e2, e3])
  exact ⟨L1 _, ⟨_, rfl⟩, by rw [withB, h1, d2, d3]; rfl⟩
 have d3 : decide ((m.rows.length : Int) = n) = true := decide_eq_true h3
 have e3 : decide (¬ (m.rows.length : Int) = n) = false := decide_eq_false (fun h => h h3)
 have hB : withB m w n = (List.range m.rows.length).all fun i => decide (lineW m i ≤ 600000) := by rw [withB, h1, d2, d3]; rfl
 repeat (first | rw [ko] | rw [kr] | simp -dsimp -implicitDefEqProofs only [go_sem, sQ1, hoo, e2, e3])
 refine lz_keep [3, 26, 27] (fun mm e h' => ∃ (i : Nat), g.le h' ∧ hg h' (hn g .mk) .mk = some ⟨5, [.raw (.int .i64 m.width), .sl (F 1) 1 (rIntSS m.rows), .sl (F 2) 1 (rIntSS m.scales), .raw (.int .i64 m.mul), .raw (.int .i64 m.shift)]⟩ ∧ look e 28 .mk = .raw (.int .i64 (i : Nat)) ∧ mm + i = m.rows.length ∧ ∀ j, j < i → decide (lineW m j ≤ 600000) = true) m.rows.length ?_ ?_
 ·exact ⟨0, L1 _, by simp -dsimp -implicitDefEqProofs only [go_sem, hoo], zsm, by omega, fun j hj => by omega⟩
 ·rintro mm e h' hks ⟨i, hle, row, ei, hm, hpre⟩
  simp -dsimp -implicitDefEqProofs only [go_sem, sQ1] at hks
  by_cases q1 : (i : Int) < (m.rows.length : Int)
  ·have q2 : i < m.rows.length := by omega
   have q3 : i < m.scales.length := by omega
   have w1 := zwrs i (by omega)
   repeat (first | rw [ko] | rw [kr] | simp -dsimp -implicitDefEqProofs only [go_sem, sQ1, hks, ei, q1, q2, q3, row])
   refine pw_intro (implWorst_ok (smallL_at hsm.1 i) (smallL_at hsm.2 i)) ?_
   rintro _ n3 hn3 rfl
   repeat (first | rw [ko] | rw [kr] | simp -dsimp -implicitDefEqProofs only [go_sem])
   refine gz_dec (fun q5 => ?_) (fun q5 => ?_)
   ·repeat (first | rw [ko] | rw [kr] | simp -dsimp -implicitDefEqProofs only [go_sem])
    exact ⟨le_up hle hn3, ⟨_, rfl⟩, by rw [hB, range_bad q2 (decide_eq_false (by unfold lineW; omega))]⟩
   ·repeat (first | rw [ko] | rw [kr] | simp -dsimp -implicitDefEqProofs only [go_sem, sQ1, w1])
    refine nx_keep (mm - 1) (by omega) zsm ⟨i + 1, le_up hle hn3, by simp -dsimp -implicitDefEqProofs only [go_sem, row], zsm, by omega, fun j hj => ?_⟩
    by_cases hji : j = i
    ·subst hji; exact decide_eq_true (by unfold lineW; omega)
    ·exact hpre j (by omega)
  ·repeat (first | rw [ko] | rw [kr] | simp -dsimp -implicitDefEqProofs only [go_sem, hks, ei, q1])
   exact ⟨hle, ⟨_, rfl⟩, by rw [hB, range_all fun j hj => hpre j (by omega)]⟩
theorem topWorst_ok {F : Nat → Adr} {m : LMatrix} {g : H2} (hsm : smallM m) (hln : m.scales.length = m.rows.length) : PW Tryz.prog W0 153 [.st (xMatrix F m)] g (fun y => y = .raw (.int .i64 (topW m m.rows.length))) := by
 obtain ⟨⟨hr1, hr2⟩, hs1, hs2⟩ := id hsm
 refine PW.scalar ?_
 refine begins [[0], [1], [1, 3], [1, 3, 4], [1, 3, 4], [1, 3, 4], [1, 3, 4, 5], [1, 4, 5], [3]] Tryz.func153 rfl (rs := [.tmp 2]) rfl rfl ?_
 intro wf
 repeat (first | rw [ko] | rw [kr] | simp -dsimp -implicitDefEqProofs only [go_sem, hoo])
 refine lz_keep [1] (fun mm e h' => ∃ (i : Nat), g.le h' ∧ hg h' (hn g .mk) .mk = some ⟨5, [.raw (.int .i64 m.width), .sl (F 1) 1 (rIntSS m.rows), .sl (F 2) 1 (rIntSS m.scales), .raw (.int .i64 m.mul), .raw (.int .i64 m.shift)]⟩ ∧ look e 4 .mk = .raw (.int .i64 (i : Nat)) ∧ look e 3 .mk = .raw (.int .i64 (topW m i)) ∧ mm + i = m.rows.length) m.rows.length ?_ ?_
 ·exact ⟨0, le_push (H2.le.refl _), by simp -dsimp -implicitDefEqProofs only [go_sem, hoo], zsm, by simp -dsimp -implicitDefEqProofs only [go_sem] <;> rfl, by omega⟩
 ·rintro mm e h' hks ⟨i, hle, row, ei, e3, hm⟩
  simp -dsimp -implicitDefEqProofs only [go_sem] at hks
  by_cases q1 : (i : Int) < (m.rows.length : Int)
  ·have q2 : i < m.rows.length := by omega
   have q3 : i < m.scales.length := by omega
   have w1 := zwrs i (by omega)
   repeat (first | rw [ko] | rw [kr] | simp -dsimp -implicitDefEqProofs only [go_sem, sQ1, hks, ei, e3, q1, row])
   refine dq_intro [(0, []), (1, []), (2, []), (3, []), (4, []), (5, []), (6, []), (7, []), (8, []), (9, []), (10, []), (11, [])] (by kernel_rfl) ?_
   repeat (first | rw [ko] | rw [kr] | simp -dsimp -implicitDefEqProofs only [go_sem, sQ1, q2, q3, row])
   refine pw_intro (specWorst_ok (smallL_at hsm.1 i) (smallL_at hsm.2 i)) ?_
   rintro _ n3 hn3 rfl
   repeat (first | rw [ko] | rw [kr] | simp -dsimp -implicitDefEqProofs only [go_sem, sQ1])
   have hT : topW m (i + 1) = if topW m i < lineW m i then lineW m i else topW m i := rfl
   unfold lineW at hT
   refine gz_dec (fun q5 => ?_) (fun q5 => ?_)
   ·rw [if_pos (by omega)] at hT
    repeat (first | rw [ko] | rw [kr] | simp -dsimp -implicitDefEqProofs only [go_sem, sQ1, w1])
    exact nx_keep (mm - 1) (by omega) zsm ⟨i + 1, le_up hle hn3, by simp -dsimp -implicitDefEqProofs only [go_sem, row], zsm, by simp -dsimp -implicitDefEqProofs only [go_sem, sQ1, hT], by omega⟩
   ·rw [if_neg (by omega)] at hT
    repeat (first | rw [ko] | rw [kr] | simp -dsimp -implicitDefEqProofs only [go_sem, sQ1, w1])
    exact nx_keep (mm - 1) (by omega) zsm ⟨i + 1, le_up hle hn3, by simp -dsimp -implicitDefEqProofs only [go_sem, row], zsm, by simp -dsimp -implicitDefEqProofs only [go_sem, sQ1, hT], by omega⟩
  ·obtain rfl : i = m.rows.length := by omega
   repeat (first | rw [ko] | rw [kr] | simp -dsimp -implicitDefEqProofs only [go_sem, sQ1, hks, ei, e3, q1, row])
   exact ⟨hle, ⟨_, rfl⟩, rfl⟩
theorem l10Matrix_ok {F : Nat → Adr} {m : LMatrix} {w n : Int} {g : H2} (hsm : smallM m) : PW Tryz.prog W0 105 [.st (xMatrix F m), .raw (.int .i64 w), .raw (.int .i64 n)] g (fun y => y = .raw (.bool (withB m w n))) := by
 refine PW.scalar ?_
 refine begins [[0, 1, 2], [1, 2, 3]] Tryz.func105 rfl (rs := [.tmp 6]) rfl rfl ?_
 intro wf
 repeat (first | rw [ko] | rw [kr] | simp -dsimp -implicitDefEqProofs only [go_sem, sQ1, hoo])
 refine pw_intro (specMatrix_ok (F := F) hsm) ?_
 rintro _ n1 hn1 rfl
 rw [hn_push] at hn1
 have L1 : ∀ k : OB, g.le ((g.push k).up n1) := fun k => le_up (le_push (H2.le.refl _)) (by rw [hn_push]; exact hn1)
 cases h1 : matB m
 ·repeat (first | rw [ko] | rw [kr] | simp -dsimp -implicitDefEqProofs only [go_sem, sQ1, hoo])
  exact ⟨L1 _, ⟨_, rfl⟩, by rw [withB, h1]; rfl⟩
 have hln := mat_len h1
 by_cases h2 : m.width = w
 rotate_left
 ·have d2 : decide (m.width = w) = false := decide_eq_false h2
  repeat (first | rw [ko] | rw [kr] | simp -dsimp -implicitDefEqProofs only [go_sem, sQ1, hoo, d2])
  exact ⟨L1 _, ⟨_, rfl⟩, by rw [withB, h1, d2]; rfl⟩
 have d2 : decide (m.width = w) = true := decide_eq_true h2
 by_cases h3 : (m.rows.length : Int) = n
 rotate_left
 ·have d3 : decide ((m.rows.length : Int) = n) = false := decide_eq_false h3
  repeat (first | rw [ko] | rw [kr] | simp -dsimp -implicitDefEqProofs only [go_sem, sQ1, hoo, d2, d3])
  exact ⟨L1 _, ⟨_, rfl⟩, by rw [withB, h1, d2, d3]; rfl⟩
 have d3 : decide ((m.rows.length : Int) = n) = true := decide_eq_true h3
 have hB : withB m w n = (List.range m.rows.length).all fun i => decide (lineW m i ≤ 600000) := by rw [withB, h1, d2, d3]; rfl
 repeat (first | rw [ko] | rw [kr] | simp -dsimp -implicitDefEqProofs only [go_sem, sQ1, hoo, d2, d3])
 refine pw_intro (topWorst_ok (F := F) hsm hln) ?_
 rintro _ n2 hn2 rfl
 simp only [hn_up] at hn2
 repeat (first | rw [ko] | rw [kr] | simp -dsimp -implicitDefEqProofs only [go_sem, hoo])
 refine ⟨le_up (L1 _) (by rw [hn_up]; exact hn2), ⟨_, rfl⟩, ?_⟩
 rw [hB]
 by_cases h4 : topW m m.rows.length ≤ 600000
 ·rw [decide_eq_true h4, range_all fun i hi => decide_eq_true (topW_le.1 h4 i hi)]
 ·rw [decide_eq_false h4]
  cases hA : ((List.range m.rows.length).all fun i => decide (lineW m i ≤ 600000))
  ·rfl
  ·rw [List.all_eq_true] at hA
   exact absurd (topW_le.2 fun i hi => by simpa using hA i (List.mem_range.2 hi)) h4
end Go.Bi
end
section
set_option maxRecDepth 20000
namespace Go.Bi
open Go.Proofs
open Go.Ai (wrap_i64 Heap)
variable {W0 : World} {P : Program}
set_option maxHeartbeats 4000000
theorem indexR_ok {F : FuncId} {p : List Int → Bool} {caps : List Value} {f : Adr} {ss : List (List Int)} {h : H2} (hn0 : ss.length ≤ 1048576)
  (hf : ∀ (i : Nat), i < ss.length → ∀ (f' : Adr) (h' : H2), h.le h' → PW Tryz.prog W0 F ([.sl f' 1 (ints (ss.getD i default))] ++ caps.map .raw) h' (fun v => v = .raw (.bool (p (ss.getD i default))))) :
  PW Tryz.prog W0 172 [.sl f 1 (rIntSS ss), .raw (.func (.func F) #[] caps.toArray)] h (fun v => ∃ k : Int, v = .raw (.int .i64 k) ∧ decide (0 ≤ k) = ss.any p) := by
 refine PW.scalar ((?_ : WC2 _ _ _ _ _ fun v g' => h.le g' ∧ ∃ k : Int, v = .raw (.int .i64 k) ∧ decide (0 ≤ k) = ss.any p).mono fun v g' ⟨h1, k, h2, h3⟩ => ⟨h1, ⟨_, h2⟩, k, h2, h3⟩)
 refine begins [[0, 1], [0, 1], [0, 1, 7, 8], [0, 1, 7, 8], [0, 1, 5, 7, 8], [5], [0, 1, 7, 8], []] Tryz.func172 rfl (rs := [.tmp 4]) rfl rfl ?_
 intro wf
 repeat (first | rw [ko] | rw [kr] | simp -dsimp -implicitDefEqProofs only [go_sem])
 refine lz_keep [0, 1, 7] (fun m e h' => h.le h' ∧ ∃ k : Nat, look e 8 .mk = .raw (.int .i64 k) ∧ m + k = ss.length ∧ ∀ j : Nat, j < k → p (ss.getD j default) = false) ss.length ?_ ?_
 ·exact ⟨H2.le.refl _, 0, zsm, by omega, fun j hj => by omega⟩
 ·rintro m e h' hks ⟨hle, k, e8, hk, hpre⟩
  simp -dsimp -implicitDefEqProofs only [go_sem, sQ1] at hks
  repeat (first | rw [ko] | rw [kr] | simp -dsimp -implicitDefEqProofs only [go_sem, hks, e8])
  refine gz_dec (fun h2 => ?_) (fun h2 => ?_)
  ·have h3 : k < ss.length := by omega
   repeat (first | rw [ko] | rw [kr] | simp -dsimp -implicitDefEqProofs only [go_sem, sQ1, h3])
   refine pw_intro (hf k h3 _ _ hle) ?_
   rintro _ n hn1 rfl
   repeat (first | rw [ko] | rw [kr] | simp -dsimp -implicitDefEqProofs only [go_sem])
   refine gz_intro (fun h4 => ?_) (fun h4 => ?_)
   ·repeat (first | rw [ko] | rw [kr] | simp -dsimp -implicitDefEqProofs only [go_sem, sQ1])
    exact ⟨le_up hle hn1, _, rfl, by rw [any_getD h3 h4]; simp⟩
   ·repeat (first | rw [ko] | rw [kr] | simp -dsimp -implicitDefEqProofs only [go_sem, sQ1, wrap_succ h3 (by omega)])
    refine nx_keep (m - 1) (by omega) zsm ⟨le_up hle hn1, k + 1, zsm, by omega, fun j hj => ?_⟩
    by_cases hji : j = k
    ·subst hji; exact h4
    ·exact hpre j (by omega)
  ·repeat (first | rw [ko] | rw [kr] | simp -dsimp -implicitDefEqProofs only [go_sem])
   exact ⟨hle, _, rfl, by rw [any_none fun j hj => hpre j (by omega)]; rfl⟩
theorem containsR_ok {F : FuncId} {p : List Int → Bool} {caps : List Value} {f : Adr} {ss : List (List Int)} {h : H2} (hn0 : ss.length ≤ 1048576)
  (hf : ∀ (i : Nat), i < ss.length → ∀ (f' : Adr) (h' : H2), h.le h' → PW Tryz.prog W0 F ([.sl f' 1 (ints (ss.getD i default))] ++ caps.map .raw) h' (fun v => v = .raw (.bool (p (ss.getD i default))))) :
  PW Tryz.prog W0 121 [.sl f 1 (rIntSS ss), .raw (.func (.func F) #[] caps.toArray)] h (fun v => v = .raw (.bool (ss.any p))) := by
 refine PW.scalar ?_
 refine begins [[0, 1], [0, 1]] Tryz.func121 rfl (rs := [.tmp 4]) rfl rfl ?_
 intro wf
 repeat (first | rw [ko] | rw [kr] | simp -dsimp -implicitDefEqProofs only [go_sem])
 refine pw_intro (indexR_ok hn0 hf) ?_
 rintro _ n hn1 ⟨k, rfl, hk⟩
 repeat (first | rw [ko] | rw [kr] | simp -dsimp -implicitDefEqProofs only [go_sem, hk])
 exact ⟨le_up (H2.le.refl _) hn1, ⟨_, rfl⟩, rfl⟩
def turnB (n : Int) (l : List Int) : Bool := decide ((l.length : Int) = n) && allI l (-128) 128
def turnsL (l : List (List Int)) (c n : Int) : Bool := decide ((l.length : Int) = c) && !(l.any fun x => !turnB n x)
def turnsB (t : LTurns) (c n : Int) : Bool := inI c 4 24 && (inI n 1 4 && (turnsL t.cos c n && turnsL t.sin c n))
theorem turn1_ok {f : Adr} {l : List Int} {b z : Nat} {n : Int} {h : H2} (hb : hg h b .mk = some ⟨z, [.raw (.int .i64 n)]⟩) (hl : l.length ≤ 1048576) : PW Tryz.prog W0 216 [.sl f 1 (ints l), .raw (.pointer (some ⟨b, 0, none⟩))] h (fun y => y = .raw (.bool (!turnB n l))) := by
 refine PW.scalar ?_
 refine begins [[0, 1], [0, 1]] Tryz.func216 rfl (rs := [.tmp 3]) rfl rfl ?_
 intro wf
 by_cases h1 : (l.length : Int) = n
 ·have d1 : decide ((l.length : Int) = n) = true := decide_eq_true h1
  have e1 : decide (¬ (l.length : Int) = n) = false := decide_eq_false (fun h => h h1)
  repeat (first | rw [ko] | rw [kr] | simp -dsimp -implicitDefEqProofs only [go_sem, sQ1, hb, e1])
  refine pw_intro (allIn_ok (by omega)) ?_
  rintro _ n1 hn1 rfl
  repeat (first | rw [ko] | rw [kr] | simp -dsimp -implicitDefEqProofs only [go_sem])
  exact ⟨le_up (H2.le.refl _) hn1, ⟨_, rfl⟩, by rw [turnB, d1]; rfl⟩
 ·have d1 : decide ((l.length : Int) = n) = false := decide_eq_false h1
  have e1 : decide (¬ (l.length : Int) = n) = true := decide_eq_true h1
  repeat (first | rw [ko] | rw [kr] | simp -dsimp -implicitDefEqProofs only [go_sem, hb, e1])
  exact ⟨H2.le.refl _, ⟨_, rfl⟩, by rw [turnB, d1]; rfl⟩
theorem turnLists_ok {f : Adr} {l : List (List Int)} {c n : Int} {g : H2} (hl : smallL l) : PW Tryz.prog W0 178 [.sl f 1 (rIntSS l), .raw (.int .i64 c), .raw (.int .i64 n)] g (fun y => y = .raw (.bool (turnsL l c n))) := by
 refine PW.scalar ?_
 refine begins [[0, 1, 2], [0, 1, 5]] Tryz.func178 rfl (rs := [.tmp 6]) rfl rfl ?_
 intro wf
 by_cases h1 : (l.length : Int) = c
 ·have d1 : decide ((l.length : Int) = c) = true := decide_eq_true h1
  repeat (first | rw [ko] | rw [kr] | simp -dsimp -implicitDefEqProofs only [go_sem, sQ1, d1, hoo])
  refine pw_intro (containsR_ok (F := 216) (p := fun x => !turnB n x) (caps := [.pointer (some ⟨hn g .mk, 0, none⟩)]) hl.1 fun i hi f' h' hle => ?_) ?_
  ·exact turn1_ok (z := 1) ((hle.2 (hn g .mk) (by rw [hn_push]; omega)).trans (by simp -dsimp -implicitDefEqProofs only [go_sem, hoo])) (smallL_at hl i)
  rintro _ n1 hn1 rfl
  rw [hn_push] at hn1
  repeat (first | rw [ko] | rw [kr] | simp -dsimp -implicitDefEqProofs only [go_sem])
  exact ⟨le_up (le_push (H2.le.refl _)) (by rw [hn_push]; exact hn1), ⟨_, rfl⟩, by rw [turnsL, d1]; rfl⟩
 ·have d1 : decide ((l.length : Int) = c) = false := decide_eq_false h1
  repeat (first | rw [ko] | rw [kr] | simp -dsimp -implicitDefEqProofs only [go_sem, sQ1, d1, hoo])
  exact ⟨le_push (H2.le.refl _), ⟨_, rfl⟩, by rw [turnsL, d1]; rfl⟩
theorem implTurns_ok {F : Nat → Adr} {t : LTurns} {c n : Int} {g : H2} (h1 : smallL t.cos) (h2 : smallL t.sin) : PW Tryz.prog W0 129 [.st (xTurns F t), .raw (.int .i64 c), .raw (.int .i64 n)] g (fun y => y = .raw (.bool (turnsB t c n))) := by
 refine PW.scalar ?_
 refine begins [[0, 1, 2], [1, 2, 3]] Tryz.func129 rfl (rs := [.tmp 6]) rfl rfl ?_
 intro wf
 repeat (first | rw [ko] | rw [kr] | simp -dsimp -implicitDefEqProofs only [go_sem, sQ1, hoo])
 refine wz_intro in_ok ?_
 rintro _ _ ⟨rfl, rfl⟩
 cases q1 : inI c 4 24
 ·repeat (first | rw [ko] | rw [kr] | simp -dsimp -implicitDefEqProofs only [go_sem, sQ1, hoo])
  exact ⟨le_push (H2.le.refl _), ⟨_, rfl⟩, by rw [turnsB, q1]; rfl⟩
 repeat (first | rw [ko] | rw [kr] | simp -dsimp -implicitDefEqProofs only [go_sem, sQ1, hoo])
 refine wz_intro in_ok ?_
 rintro _ _ ⟨rfl, rfl⟩
 cases q2 : inI n 1 4
 ·repeat (first | rw [ko] | rw [kr] | simp -dsimp -implicitDefEqProofs only [go_sem, sQ1, hoo])
  exact ⟨le_push (H2.le.refl _), ⟨_, rfl⟩, by rw [turnsB, q1, q2]; rfl⟩
 repeat (first | rw [ko] | rw [kr] | simp -dsimp -implicitDefEqProofs only [go_sem, sQ1, hoo])
 refine pw_intro (turnLists_ok h1) ?_
 rintro _ n1 hn1 rfl
 rw [hn_push] at hn1
 cases q3 : turnsL t.cos c n
 ·repeat (first | rw [ko] | rw [kr] | simp -dsimp -implicitDefEqProofs only [go_sem, sQ1, hoo])
  exact ⟨le_up (le_push (H2.le.refl _)) (by rw [hn_push]; exact hn1), ⟨_, rfl⟩, by rw [turnsB, q1, q2, q3]; rfl⟩
 repeat (first | rw [ko] | rw [kr] | simp -dsimp -implicitDefEqProofs only [go_sem, sQ1, hoo])
 refine pw_intro (turnLists_ok h2) ?_
 rintro _ n2 hn2 rfl
 rw [hn_up] at hn2
 repeat (first | rw [ko] | rw [kr] | simp -dsimp -implicitDefEqProofs only [go_sem, sQ1, hoo])
 exact ⟨le_up (le_up (le_push (H2.le.refl _)) (by rw [hn_push]; exact hn1)) (by rw [hn_up]; exact hn2), ⟨_, rfl⟩, by rw [turnsB, q1, q2, q3]; rfl⟩
end Go.Bi
end
section
set_option maxRecDepth 20000
namespace Go.Bi
open Go.Proofs
open Go.Ai (wrap_i64 Heap)
variable {W0 : World} {P : Program}
set_option maxHeartbeats 4000000
theorem turnsL_bad {l : List (List Int)} {c n : Int} {i : Nat} (hi : i < l.length) (h : turnB n (l.getD i default) = false) : turnsL l c n = false := by
 unfold turnsL
 rw [any_getD (p := fun x => !turnB n x) hi (by simp only [h]; rfl)]; simp
theorem turnsL_good {l : List (List Int)} {c n : Int} (hc : (l.length : Int) = c) (h : ∀ i, i < l.length → turnB n (l.getD i default) = true) : turnsL l c n = true := by
 unfold turnsL
 rw [any_none (p := fun x => !turnB n x) fun j hj => by simp only [h j hj]; rfl, decide_eq_true hc]; rfl
theorem specTurns_ok {F : Nat → Adr} {t : LTurns} {c n : Int} {g : H2} (s1 : smallL t.cos) (s2 : smallL t.sin) : PW Tryz.prog W0 106 [.st (xTurns F t), .raw (.int .i64 c), .raw (.int .i64 n)] g (fun y => y = .raw (.bool (turnsB t c n))) := by
 obtain ⟨s11, s12⟩ := id s1
 obtain ⟨s21, s22⟩ := id s2
 refine PW.scalar ?_
 refine begins [[0, 1, 2], [1, 2, 3], [], [1, 2, 3], [1, 2, 3, 7], [1, 2, 3, 7], [1, 2, 3, 7], [], []] Tryz.func106 rfl (rs := [.tmp 6]) rfl rfl ?_
 intro wf
 repeat (first | rw [ko] | rw [kr] | simp -dsimp -implicitDefEqProofs only [go_sem, sQ1, hoo])
 refine wz_intro l01In_ok ?_
 rintro _ _ ⟨rfl, rfl⟩
 cases q1 : inI c 4 24
 ·repeat (first | rw [ko] | rw [kr] | simp -dsimp -implicitDefEqProofs only [go_sem, sQ1, hoo])
  exact ⟨le_push (H2.le.refl _), ⟨_, rfl⟩, by rw [turnsB, q1]; rfl⟩
 repeat (first | rw [ko] | rw [kr] | simp -dsimp -implicitDefEqProofs only [go_sem, sQ1, hoo])
 refine wz_intro l01In_ok ?_
 rintro _ _ ⟨rfl, rfl⟩
 cases q2 : inI n 1 4
 ·repeat (first | rw [ko] | rw [kr] | simp -dsimp -implicitDefEqProofs only [go_sem, sQ1, hoo])
  exact ⟨le_push (H2.le.refl _), ⟨_, rfl⟩, by rw [turnsB, q1, q2]; rfl⟩
 have hB : turnsB t c n = (turnsL t.cos c n && turnsL t.sin c n) := by rw [turnsB, q1, q2]; rfl
 by_cases h3 : (t.cos.length : Int) = c
 rotate_left
 ·have e3 : decide (¬ (t.cos.length : Int) = c) = true := decide_eq_true h3
  repeat (first | rw [ko] | rw [kr] | simp -dsimp -implicitDefEqProofs only [go_sem, sQ1, hoo, e3])
  exact ⟨le_push (H2.le.refl _), ⟨_, rfl⟩, by rw [hB, turnsL, decide_eq_false h3]; rfl⟩
 have e3 : decide (¬ (t.cos.length : Int) = c) = false := decide_eq_false (fun h => h h3)
 by_cases h4 : (t.sin.length : Int) = c
 rotate_left
 ·have e4 : decide (¬ (t.sin.length : Int) = c) = true := decide_eq_true h4
  repeat (first | rw [ko] | rw [kr] | simp -dsimp -implicitDefEqProofs only [go_sem, sQ1, hoo, e3, e4])
  refine ⟨le_push (H2.le.refl _), ⟨_, rfl⟩, ?_⟩
  rw [hB, show turnsL t.sin c n = false by rw [turnsL, decide_eq_false h4]; rfl, Bool.and_false]
 have e4 : decide (¬ (t.sin.length : Int) = c) = false := decide_eq_false (fun h => h h4)
 repeat (first | rw [ko] | rw [kr] | simp -dsimp -implicitDefEqProofs only [go_sem, sQ1, hoo, e3, e4])
 refine lz_keep [1, 2, 3] (fun mm e h' => ∃ (i : Nat), g.le h' ∧ hg h' (hn g .mk) .mk = some ⟨2, [.sl (F 0) 1 (rIntSS t.cos), .sl (F 1) 1 (rIntSS t.sin)]⟩ ∧ look e 7 .mk = .raw (.int .i64 (i : Nat)) ∧ mm + i = t.cos.length ∧ ∀ j, j < i → turnB n (t.cos.getD j default) = true ∧ turnB n (t.sin.getD j default) = true) t.cos.length ?_ ?_
 ·exact ⟨0, le_push (H2.le.refl _), by simp -dsimp -implicitDefEqProofs only [go_sem, hoo], zsm, by omega, fun j hj => by omega⟩
 ·rintro mm e h' hks ⟨i, hle, row, ei, hm, hpre⟩
  simp -dsimp -implicitDefEqProofs only [go_sem, sQ1] at hks
  by_cases q5 : (i : Int) < c
  ·have q6 : i < t.cos.length := by omega
   have q7 : i < t.sin.length := by omega
   have w1 := zwrs i (by omega)
   by_cases p1 : ((t.cos.getD i default).length : Int) = n
   rotate_left
   ·have n1 : decide (¬ ((t.cos.getD i default).length : Int) = n) = true := decide_eq_true p1
    repeat (first | rw [ko] | rw [kr] | simp -dsimp -implicitDefEqProofs only [go_sem, sQ1, hks, ei, q5, q6, n1, row])
    exact ⟨hle, ⟨_, rfl⟩, by rw [hB, turnsL_bad q6 (by rw [turnB, decide_eq_false p1]; rfl)]; rfl⟩
   have n1 : decide (¬ ((t.cos.getD i default).length : Int) = n) = false := decide_eq_false (fun h => h p1)
   by_cases p2 : ((t.sin.getD i default).length : Int) = n
   rotate_left
   ·have n2 : decide (¬ ((t.sin.getD i default).length : Int) = n) = true := decide_eq_true p2
    repeat (first | rw [ko] | rw [kr] | simp -dsimp -implicitDefEqProofs only [go_sem, sQ1, hks, ei, q5, q6, q7, n1, n2, row])
    exact ⟨hle, ⟨_, rfl⟩, by rw [hB, turnsL_bad (l := t.sin) q7 (by rw [turnB, decide_eq_false p2]; rfl), Bool.and_false]⟩
   have n2 : decide (¬ ((t.sin.getD i default).length : Int) = n) = false := decide_eq_false (fun h => h p2)
   repeat (first | rw [ko] | rw [kr] | simp -dsimp -implicitDefEqProofs only [go_sem, sQ1, hks, ei, q5, q6, q7, n1, n2, row])
   refine pw_intro (l05All_ok (by have := smallL_at s1 i; omega)) ?_
   rintro _ k1 hk1 rfl
   cases p3 : allI (t.cos.getD i default) (-128) 128
   ·repeat (first | rw [ko] | rw [kr] | simp -dsimp -implicitDefEqProofs only [go_sem, sQ1])
    exact ⟨le_up hle hk1, ⟨_, rfl⟩, by rw [hB, turnsL_bad q6 (by rw [turnB, p3, Bool.and_false])]; rfl⟩
   repeat (first | rw [ko] | rw [kr] | simp -dsimp -implicitDefEqProofs only [go_sem, sQ1, q7, row])
   refine pw_intro (l05All_ok (by have := smallL_at s2 i; omega)) ?_
   rintro _ k2 hk2 rfl
   cases p4 : allI (t.sin.getD i default) (-128) 128
   ·repeat (first | rw [ko] | rw [kr] | simp -dsimp -implicitDefEqProofs only [go_sem, sQ1])
    exact ⟨le_up (le_up hle hk1) hk2, ⟨_, rfl⟩, by rw [hB, turnsL_bad (l := t.sin) q7 (by rw [turnB, p4, Bool.and_false]), Bool.and_false]⟩
   repeat (first | rw [ko] | rw [kr] | simp -dsimp -implicitDefEqProofs only [go_sem, sQ1, w1])
   refine nx_keep (mm - 1) (by omega) zsm ⟨i + 1, le_up (le_up hle hk1) hk2, by simp -dsimp -implicitDefEqProofs only [go_sem, row], zsm, by omega, fun j hj => ?_⟩
   by_cases hji : j = i
   ·subst hji; exact ⟨by rw [turnB, decide_eq_true p1, p3]; rfl, by rw [turnB, decide_eq_true p2, p4]; rfl⟩
   ·exact hpre j (by omega)
  ·repeat (first | rw [ko] | rw [kr] | simp -dsimp -implicitDefEqProofs only [go_sem, sQ1, hks, ei, q5])
   refine ⟨hle, ⟨_, rfl⟩, ?_⟩
   rw [hB, turnsL_good h3 fun j hj => (hpre j (by omega)).1, turnsL_good h4 fun j hj => (hpre j (by omega)).2]; rfl
end Go.Bi
end
