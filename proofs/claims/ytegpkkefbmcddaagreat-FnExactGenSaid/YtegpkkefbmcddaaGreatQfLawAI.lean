/- Own lemmas that the theorem of this claim needs: the abstract machine and walks of functions. -/
import Derived.Test.YtegpkkefbmcddaaGreatQfLawAH
import Derived.Laws.Bits128
set_option linter.unusedSimpArgs false
set_option linter.unusedVariables false
open Nat renaming reduceBEq → sQ1, reduceAdd → sQ2, reduceLeDiff → sQ3, reduceMul → sQ4
open Int renaming reduceLE → sQ5, reduceLT → sQ6, reduceBEq → sQ7
section
set_option maxRecDepth 20000
namespace Go.Bi
open Go.Proofs
open Go.Ai (wrap_i64 wrap_u64 wrap_u8)
variable {W0 : World}
def Af (zs : List Aj) : List (List T) := zs.map DP
theorem HR {zs : List Aj} : (Af zs).length = zs.length := by simp [Af]
theorem Sc {zs : List Aj} {i : Nat} (hi : i < zs.length) : el (Af zs) i = DP (zs.getD i default) := Gg hi
attribute [go_sem] HR Sc
def Cg (zs : List Aj) : Nat := zs.length + Bv BK zs
def H5 (zs : List Aj) : Prop := zs.length ≤ 9223372036854775807 ∧ ∀ x ∈ zs, Ez x
theorem Qm {f : AQ} {zs : List Aj} {left : Int} {h : H2} (hf : H5 zs) (hl : 0 ≤ left ∧ left ≤ 1048576) : PW Tryz.prog W0 43 [.sl f 32 (Af zs), .raw (.int .i64 left)] h (fun y => ∃ k : Int, y = .raw (.int .i64 k) ∧ (0 ≤ k → (Cg zs : Int) + k ≤ left)) := by
 obtain ⟨hf1, hf2⟩ := hf
 unfold Cg
 have hw : IntKind.i64.wrap (left - zs.length) = left - zs.length := by rw [wrap_i64] <;> omega
 refine PW.scalar ?_
 refine AH [[0, 1], [0, 1], [0, 1], [], [0, 1], [0, 1, 5], [0, 1, 5], [0, 1, 5], [0, 1, 5], [], [1]] Tryz.func43 rfl (rs := [.tmp 4]) rfl rfl ?_
 intro wf
 refine A1 hw ?_
 refine AN (fun h1 => ?_) (fun h1 => ?_)
 ·refine zr ?_
  exact ⟨H2.le.refl _, ⟨_, rfl⟩, _, rfl, fun hh => by omega⟩
 ·refine zr ?_
  refine AJ [0] (fun m e h' => ∃ (k n : Nat) (x : Int), h' = h.up n ∧ hn h .mk ≤ n ∧ look e 5 .mk = .raw (.int .i64 k) ∧ look e 1 .mk = .raw (.int .i64 x) ∧ 0 ≤ x ∧ (zs.length : Int) + Bv BK (zs.take k) + x ≤ left ∧ m + k = zs.length) zs.length ?_ ?_
  ·exact ⟨0, hn h .mk, left - zs.length, JM, Nat.le_refl _, AL, AL, by omega, by simp [Bv]; omega, by omega⟩
  ·rintro m e h' hks ⟨k, n, x, rfl, hnn, e5, e1, hx, hsum, hk⟩
   simp -dsimp -implicitDefEqProofs only [go_sem, sQ1] at hks
   by_cases h2 : (k : Int) < (zs.length : Int)
   ·have h3 : k < zs.length := by omega
    have hst : Bv BK (zs.take (k + 1)) = Bv BK (zs.take k) + BK (zs.getD k default) := GK (f := BK) h3
    refine FD hks e5 e1 h2 h3 ?_
    refine AD (Rw (F := under (under f k)) (c := zs.getD k default) (hf2 _ (BG h3)) ⟨by omega, by omega⟩) ?_
    rintro _ n2 hn2 ⟨x2, rfl, hx2⟩
    simp only [AF] at hn2
    refine zr ?_
    refine AN (fun h4 => ?_) (fun h4 => ?_)
    ·refine zr ?_
     exact ⟨(by first | exact AK (H2.le.refl _) (by omega) | exact AK (AK (H2.le.refl _) hnn) (by rw [AF]; omega)), ⟨_, rfl⟩, _, rfl, fun hh => by omega⟩
    ·refine A1 (AU h3 hf1) ?_
     exact AI (m - 1) (by omega) AL ⟨k + 1, n2, x2, NY, by omega, AL, AL, by omega, by have := hx2 (by omega); omega, by omega⟩
   ·refine Cu hks e5 e1 h2 ?_
    refine ⟨AK (H2.le.refl _) hnn, ⟨_, rfl⟩, x, rfl, fun _ => ?_⟩
    rw [List.take_of_length_le (by omega)] at hsum
    omega
theorem Qi {f f' : AQ} {zs : List Aj} {h : H2} (hf : H5 zs) : PW Tryz.prog W0 68 [.sl f 32 (Af zs), .sl f' 32 (Af zs)] h (fun y => y = .raw (.bool true)) := by
 obtain ⟨hf1, hf2⟩ := hf
 refine PW.scalar ?_
 refine AH [[0, 1], [0, 1], [], [0, 1], [0, 1, 5], [0, 1, 5], [0, 1, 5], [], []] Tryz.func68 rfl (rs := [.tmp 4]) rfl rfl ?_
 intro wf
 refine zr ?_
 refine AJ [0, 1] (fun m e h' => ∃ (k n : Nat), h' = h.up n ∧ hn h .mk ≤ n ∧ look e 5 .mk = .raw (.int .i64 k) ∧ m + k = zs.length) zs.length ?_ ?_
 ·exact ⟨0, hn h .mk, JM, Nat.le_refl _, AL, by omega⟩
 ·rintro m e h' hks ⟨k, n, rfl, hnn, e5, hk⟩
  simp -dsimp -implicitDefEqProofs only [go_sem, sQ1] at hks
  by_cases h2 : (k : Int) < (zs.length : Int)
  ·have h3 : k < zs.length := by omega
   refine DH hks e5 h2 ?_
   refine AO [(0, []), (1, []), (2, []), (3, []), (4, []), (5, []), (6, []), (7, []), (8, []), (9, [])] (by kernel_rfl) ?_
   refine A1 h3 ?_
   refine AD (Q5 (F := under (under f k)) (F' := under (under f' k)) (c := zs.getD k default) (hf2 _ (BG h3))) ?_
   rintro _ n2 hn2 rfl
   simp only [AF] at hn2
   refine A1 (AU h3 hf1) ?_
   exact AI (m - 1) (by omega) AL ⟨k + 1, n2, NY, by omega, AL, by omega⟩
  ·refine DH hks e5 h2 ?_
   exact ⟨AK (H2.le.refl _) hnn, ⟨_, rfl⟩, rfl⟩
theorem OA {f : AQ} {zs : List Aj} {h : H2} (hs : Cg zs ≤ 1048576) : Wf Tryz.prog W0 55 [.sl f 32 (Af zs)] h (.l 32 (Af zs)) := by
 unfold Cg at hs
 have hE : ∀ a, (DP a).length = 32 := fun a => rfl
 refine AH [[0], [0], [0, 3], [0, 3, 4], [0, 3, 4], [0, 3, 4], [3]] Tryz.func55 rfl (rs := [.tmp 2]) rfl rfl ?_
 intro wf
 refine zr ?_
 refine Eo Ai.ty_el41 Ai.ty_zr152 (by decide) ⟨by omega, by simp only [Int.toNat_natCast]; have : Ai.most = 1099511627776 := rfl; omega⟩ ?_
 refine zr ?_
 refine AJ [0, 3] (fun m e h' => ∃ (k : Nat) (cs : List X) (bs : List Nat), look e 4 .mk = .raw (.int .i64 k) ∧ m + k = zs.length ∧ hg h' (hn h .mk) .mk = some ⟨32, cs⟩ ∧ cs.length = zs.length * 32 ∧ Ak h' bs (cs.take (k * 32)) (((zs.take k).map DP).flatten) ∧ Bl (hn h .mk + 1) (hn h' .mk) bs ∧ h.le h' ∧ hn h .mk < hn h' .mk) zs.length ?_ ?_
 ·exact ⟨0, _, [], AL, by omega, (by rw [Ap, Av]; rfl), by simp [Kw], by simpa using Ak.nil, Bl.nil, le_push (H2.le.refl _), by rw [AB]; omega⟩
 ·rintro m e h' hks ⟨k, cs, bs, e4, hk, hrow, hcs, ho, hbl, hle, hlt⟩
  simp -dsimp -implicitDefEqProofs only [go_sem] at hks
  by_cases h2 : (k : Int) < (zs.length : Int)
  ·have h3 : k < zs.length := by omega
   have hsm : BK (zs.getD k default) ≤ Bv BK zs := GI (f := BK) (BG h3)
   refine Cu hks e4 h2 h3 ?_
   refine AA (R7 (F := under (under f k)) (c := zs.getD k default) (by omega)) ?_
   rintro _ g2 ⟨l2, ys, b2, rfl, o2, bl2⟩
   have nn2 := l2.1
   have hyl : (ys).length = 32 := (Ak.len o2).trans (hE _)
   have hyo := Ak.okx o2
   obtain ⟨w1, w2, w3⟩ := LF hcs h3 hyl
   have row2 := (l2.2 (hn h .mk) hlt).trans hrow
   have hi2 : (0 : Int) ≤ (k : Int) ∧ (k : Int) < (zs.length : Int) := by omega
   repeat (first | rw [ko] | rw [kr] | simp -dsimp -implicitDefEqProofs only [go_sem, sQ1, row2, hi2, hyl, hyo, w1, AU h3 (by omega)])
   have hset : ∀ {b : Nat} {kk : OB}, b ≠ hn h .mk → (g2.set (hn h .mk) kk).get b = g2.get b := fun hb => by simp only [H2.set]; rw [if_neg hb]
   refine AI (m - 1) (by omega) AL ⟨k + 1, _, bs ++ b2, AL, by omega, (by rw [BA, Av]; rfl), w2, ?_, ?_, CF (hle.trans l2) (Nat.le_refl _), by simp -dsimp -implicitDefEqProofs only [go_sem] <;> omega⟩
   ·rw [w3, GM h3]
    refine Ak.append ((Ak.keep ho l2 hbl).frame fun b hb => hset (by have := (hbl.2 b hb).1; omega)) (o2.frame fun b hb => hset (by have := (bl2.2 b hb).1; omega))
   ·rw [AG]
    exact hbl.append bl2 (by omega) nn2
  ·refine DH hks e4 h2 ?_
   have : k = zs.length := by omega
   subst this
   obtain ⟨q1, q2⟩ := OT.full hE hrow hcs ho hbl hlt
   exact ⟨hle, _, q1, q2⟩
structure AM where
 dim : Int
 heads : Int
 context : Int
 merges : List Ae
 embed : List (List Int)
 layers : List Aj
 gainEnd : List Int
 head : AR
 turns : CD
instance : Inhabited AM := ⟨⟨default, default, default, default, default, default, default, default, default⟩⟩
def Dp (c : AM) : List T := [.v (.int .i64 c.dim), .v (.int .i64 c.heads), .v (.int .i64 c.context), .l 2 (AY c.merges), .l 1 (AE c.embed), .l 32 (Af c.layers), .l 1 (ints c.gainEnd), .v (.int .i64 c.head.width), .l 1 (AE c.head.rows), .l 1 (AE c.head.scales), .v (.int .i64 c.head.mul), .v (.int .i64 c.head.shift), .l 1 (AE c.turns.cos), .l 1 (AE c.turns.sin)]
def BH (F : Nat → AQ) (c : AM) : List X := [.raw (.int .i64 c.dim), .raw (.int .i64 c.heads), .raw (.int .i64 c.context), .sl (F 3) 2 (AY c.merges), .sl (F 4) 1 (AE c.embed), .sl (F 5) 32 (Af c.layers), .sl (F 6) 1 (ints c.gainEnd), .raw (.int .i64 c.head.width), .sl (F 8) 1 (AE c.head.rows), .sl (F 9) 1 (AE c.head.scales), .raw (.int .i64 c.head.mul), .raw (.int .i64 c.head.shift), .sl (F 12) 1 (AE c.turns.cos), .sl (F 13) 1 (AE c.turns.sin)]
theorem Sy {F : Nat → AQ} {c : AM} : BH F c = [.raw (.int .i64 c.dim), .raw (.int .i64 c.heads), .raw (.int .i64 c.context), .sl (F 3) 2 (AY c.merges), .sl (F 4) 1 (AE c.embed), .sl (F 5) 32 (Af c.layers), .sl (F 6) 1 (ints c.gainEnd), .raw (.int .i64 c.head.width), .sl (F 8) 1 (AE c.head.rows), .sl (F 9) 1 (AE c.head.scales), .raw (.int .i64 c.head.mul), .raw (.int .i64 c.head.shift), .sl (F 12) 1 (AE c.turns.cos), .sl (F 13) 1 (AE c.turns.sin)] := rfl
def DB (c : AM) : Nat := Cn c.merges + BF c.embed + Cg c.layers + c.gainEnd.length + A0 c.head + EV c.turns
def Ei (c : AM) : Prop := Hk c.merges ∧ EH c.embed ∧ H5 c.layers ∧ c.gainEnd.length ≤ 9223372036854775807 ∧ By c.head ∧ Fv c.turns
attribute [go_sem] Sy
theorem Pn {g : H2} {bs : List Nat} {ys : List X} {c : AM} (o : Ak g bs ys (Dp c)) : ∃ b3 s3 b4 s4 b5 s5 b6 s6 b8 s8 b9 s9 b12 s12 b13 s13, ys = [.raw (.int .i64 c.dim), .raw (.int .i64 c.heads), .raw (.int .i64 c.context), s3, s4, s5, s6, .raw (.int .i64 c.head.width), s8, s9, .raw (.int .i64 c.head.mul), .raw (.int .i64 c.head.shift), s12, s13] ∧ bs = b3 ++ (b4 ++ (b5 ++ (b6 ++ (b8 ++ (b9 ++ (b12 ++ b13)))))) ∧ OT g b3 s3 (.l 2 (AY c.merges)) ∧ OT g b4 s4 (.l 1 (AE c.embed)) ∧ OT g b5 s5 (.l 32 (Af c.layers)) ∧ OT g b6 s6 (.l 1 (ints c.gainEnd)) ∧ OT g b8 s8 (.l 1 (AE c.head.rows)) ∧ OT g b9 s9 (.l 1 (AE c.head.scales)) ∧ OT g b12 s12 (.l 1 (AE c.turns.cos)) ∧ OT g b13 s13 (.l 1 (AE c.turns.sin)) := by
 unfold Dp at o
 obtain ⟨ys0, rfl, o0⟩ := Ak.headv o
 obtain ⟨ys1, rfl, o1⟩ := Ak.headv o0
 obtain ⟨ys2, rfl, o2⟩ := Ak.headv o1
 obtain ⟨b3, bs3, s3, ys3, rfl, rfl, a3, o3⟩ := Ak.head o2
 obtain ⟨b4, bs4, s4, ys4, rfl, rfl, a4, o4⟩ := Ak.head o3
 obtain ⟨b5, bs5, s5, ys5, rfl, rfl, a5, o5⟩ := Ak.head o4
 obtain ⟨b6, bs6, s6, ys6, rfl, rfl, a6, o6⟩ := Ak.head o5
 obtain ⟨ys7, rfl, o7⟩ := Ak.headv o6
 obtain ⟨b8, bs8, s8, ys8, rfl, rfl, a8, o8⟩ := Ak.head o7
 obtain ⟨b9, bs9, s9, ys9, rfl, rfl, a9, o9⟩ := Ak.head o8
 obtain ⟨ys10, rfl, o10⟩ := Ak.headv o9
 obtain ⟨ys11, rfl, o11⟩ := Ak.headv o10
 obtain ⟨b12, bs12, s12, ys12, rfl, rfl, a12, o12⟩ := Ak.head o11
 obtain ⟨b13, bs13, s13, ys13, rfl, rfl, a13, o13⟩ := Ak.head o12
 obtain ⟨rfl, rfl⟩ := Ak.tail0 o13
 exact ⟨_, _, _, _, _, _, _, _, _, _, _, _, _, _, _, _, rfl, by simp only [List.append_nil], a3, a4, a5, a6, a8, a9, a12, a13⟩
theorem Qd {g : H2} {c : AM} {b3 b4 b5 b6 b8 b9 b12 b13 : List Nat} {s3 s4 s5 s6 s8 s9 s12 s13 : X} (a3 : OT g b3 s3 (.l 2 (AY c.merges))) (a4 : OT g b4 s4 (.l 1 (AE c.embed))) (a5 : OT g b5 s5 (.l 32 (Af c.layers))) (a6 : OT g b6 s6 (.l 1 (ints c.gainEnd))) (a8 : OT g b8 s8 (.l 1 (AE c.head.rows))) (a9 : OT g b9 s9 (.l 1 (AE c.head.scales))) (a12 : OT g b12 s12 (.l 1 (AE c.turns.cos))) (a13 : OT g b13 s13 (.l 1 (AE c.turns.sin))) : Ak g (b3 ++ (b4 ++ (b5 ++ (b6 ++ (b8 ++ (b9 ++ (b12 ++ b13))))))) [.raw (.int .i64 c.dim), .raw (.int .i64 c.heads), .raw (.int .i64 c.context), s3, s4, s5, s6, .raw (.int .i64 c.head.width), s8, s9, .raw (.int .i64 c.head.mul), .raw (.int .i64 c.head.shift), s12, s13] (Dp c) := by
 have := Ak.cons (OT.raw (v := .int .i64 c.dim) rfl) (Ak.cons (OT.raw (v := .int .i64 c.heads) rfl) (Ak.cons (OT.raw (v := .int .i64 c.context) rfl) (Ak.cons a3 (Ak.cons a4 (Ak.cons a5 (Ak.cons a6 (Ak.cons (OT.raw (v := .int .i64 c.head.width) rfl) (Ak.cons a8 (Ak.cons a9 (Ak.cons (OT.raw (v := .int .i64 c.head.mul) rfl) (Ak.cons (OT.raw (v := .int .i64 c.head.shift) rfl) (Ak.cons a12 (Ak.cons a13 (Ak.nil))))))))))))))
 simpa only [Dp, List.append_nil, List.nil_append] using this
theorem TC {F : Nat → AQ} {c : AM} {left : Int} {h : H2} (hf : Ei c) (hl : 0 ≤ left ∧ left ≤ 1048576) : PW Tryz.prog W0 9 [.st (BH F c), .raw (.int .i64 left)] h (fun y => ∃ k : Int, y = .raw (.int .i64 k) ∧ (0 ≤ k → (DB c : Int) + k ≤ left)) := by
 unfold Ei at hf
 refine PW.scalar ?_
 refine AH [[0, 1], [1, 2], [1, 2], [], [1, 2], [1, 2], [], [1, 2], [1, 2], [], [1, 2], [1, 2], [], [1, 2], [1, 2], [], [1, 2], [1], [], [1]] Tryz.func9 rfl (rs := [.tmp 4]) rfl rfl ?_
 intro wf
 refine zr ?_
 refine AD (QP  hf.1 ⟨by omega, by omega⟩) ?_
 rintro _ n3 hn3 ⟨k3, rfl, hk3⟩
 refine zr ?_
 refine AN (fun q3 => ?_) (fun q3 => ?_)
 ·refine zr ?_
  exact ⟨AZ, ⟨_, rfl⟩, _, rfl, fun hh => by omega⟩
 refine zr ?_
 refine AD (Es  hf.2.1 ⟨by omega, by omega⟩) ?_
 rintro _ n4 hn4 ⟨k4, rfl, hk4⟩
 refine zr ?_
 refine AN (fun q4 => ?_) (fun q4 => ?_)
 ·refine zr ?_
  exact ⟨AZ, ⟨_, rfl⟩, _, rfl, fun hh => by omega⟩
 refine zr ?_
 refine AD (Qm  hf.2.2.1 ⟨by omega, by omega⟩) ?_
 rintro _ n5 hn5 ⟨k5, rfl, hk5⟩
 refine zr ?_
 refine AN (fun q5 => ?_) (fun q5 => ?_)
 ·refine zr ?_
  exact ⟨AZ, ⟨_, rfl⟩, _, rfl, fun hh => by omega⟩
 refine zr ?_
 refine AD (H6  hf.2.2.2.1 ⟨by omega, by omega⟩) ?_
 rintro _ n6 hn6 ⟨k6, rfl, hk6⟩
 refine zr ?_
 refine AN (fun q6 => ?_) (fun q6 => ?_)
 ·refine zr ?_
  exact ⟨AZ, ⟨_, rfl⟩, _, rfl, fun hh => by omega⟩
 refine zr ?_
 refine AD (Cc (F := fun j => F (j + 7)) hf.2.2.2.2.1 ⟨by omega, by omega⟩) ?_
 rintro _ n7 hn7 ⟨k7, rfl, hk7⟩
 refine zr ?_
 refine AN (fun q7 => ?_) (fun q7 => ?_)
 ·refine zr ?_
  exact ⟨AZ, ⟨_, rfl⟩, _, rfl, fun hh => by omega⟩
 refine zr ?_
 refine AD (RJ (F := fun j => F (j + 12)) hf.2.2.2.2.2 ⟨by omega, by omega⟩) ?_
 rintro _ n8 hn8 ⟨k8, rfl, hk8⟩
 refine zr ?_
 refine AN (fun q8 => ?_) (fun q8 => ?_)
 ·refine zr ?_
  exact ⟨AZ, ⟨_, rfl⟩, _, rfl, fun hh => by omega⟩
 refine zr ?_
 exact ⟨AZ, ⟨_, rfl⟩, _, rfl, fun hh => by unfold DB; omega⟩
theorem S7 {F F' : Nat → AQ} {c : AM} {h : H2} (hf : Ei c) : PW Tryz.prog W0 17 [.st (BH F c), .st (BH F' c)] h (fun y => y = .raw (.bool true)) := by
 unfold Ei at hf
 refine PW.scalar ?_
 refine AH [[0, 1], [2, 3], [], [2, 3], [], [2, 3], [], [2, 3], [], [2, 3], [], [2, 3], [], [2, 3], [], [2, 3], [], [2, 3], [], []] Tryz.func17 rfl (rs := [.tmp 4]) rfl rfl ?_
 intro wf
 refine zr ?_
 refine AD (QL  hf.1) ?_
 rintro _ n3 hn3 rfl
 refine zr ?_
 refine AD (E4  hf.2.1) ?_
 rintro _ n4 hn4 rfl
 refine zr ?_
 refine AD (Qi  hf.2.2.1) ?_
 rintro _ n5 hn5 rfl
 refine zr ?_
 refine AD (Fg  hf.2.2.2.1) ?_
 rintro _ n6 hn6 rfl
 refine zr ?_
 refine AD (Cb (F := fun j => F (j + 7)) (F' := fun j => F' (j + 7)) hf.2.2.2.2.1) ?_
 rintro _ n7 hn7 rfl
 refine zr ?_
 refine AD (RD (F := fun j => F (j + 12)) (F' := fun j => F' (j + 12)) hf.2.2.2.2.2) ?_
 rintro _ n8 hn8 rfl
 refine zr ?_
 exact ⟨AZ, ⟨_, rfl⟩, rfl⟩
theorem GP {F : Nat → AQ} {c : AM} {h : H2} (hs : DB c ≤ 1048576) : Tz Tryz.prog W0 12 [.st (BH F c)] h (Dp c) := by
 unfold DB at hs
 refine AH [[0], [1, 2], [1, 2, 3], [1, 2, 3], [1, 2, 3], [1, 2, 3], [1, 2, 3], [1, 2, 3], [1, 2, 3], [1, 2, 3], [1, 2, 3], [2, 3]] Tryz.func12 rfl (rs := [.cell 2 45]) rfl rfl ?_
 intro wf
 refine zr ?_
 refine AA (O5  (by omega)) ?_
 rintro s3 g3 ⟨l3, b3, o3, bl3⟩
 have ce3 := OT.cell o3
 have n3 := l3.n
 have a30 := l3.2 (hn h .mk) (by simp only [AB, AG]; omega)
 have a31 := l3.2 (hn h .mk + 1) (by simp only [AB, AG]; omega)
 have a32 := l3.2 (hn h .mk + 1 + 1) (by simp only [AB, AG]; omega)
 simp -dsimp -implicitDefEqProofs only [go_sem, Av] at n3 a30 a31 a32
 have L3 : h.le g3 := H2.le.trans AZ l3
 refine DH a30 a32 ce3 ?_
 refine AA (EB  (by omega)) ?_
 rintro s4 g4 ⟨l4, b4, o4, bl4⟩
 have ce4 := OT.cell o4
 have n4 := l4.n
 have a40 := l4.2 (hn h .mk) (by simp only [AG]; omega)
 have a41 := l4.2 (hn h .mk + 1) (by simp only [AG]; omega)
 have a42 := l4.2 (hn h .mk + 1 + 1) (by simp only [AG]; omega)
 simp -dsimp -implicitDefEqProofs only [go_sem, a30, a31, Av] at n4 a40 a41 a42
 have L4 : h.le g4 := H2.le.trans AZ l4
 refine DH a40 a42 ce4 ?_
 refine AA (OA  (by omega)) ?_
 rintro s5 g5 ⟨l5, b5, o5, bl5⟩
 have ce5 := OT.cell o5
 have n5 := l5.n
 have a50 := l5.2 (hn h .mk) (by simp only [AG]; omega)
 have a51 := l5.2 (hn h .mk + 1) (by simp only [AG]; omega)
 have a52 := l5.2 (hn h .mk + 1 + 1) (by simp only [AG]; omega)
 simp -dsimp -implicitDefEqProofs only [go_sem, a40, a41, Av] at n5 a50 a51 a52
 have L5 : h.le g5 := H2.le.trans AZ l5
 refine DH a50 a52 ce5 ?_
 refine AA (Cf  (by omega)) ?_
 rintro s6 g6 ⟨l6, b6, o6, bl6⟩
 have ce6 := OT.cell o6
 have n6 := l6.n
 have a60 := l6.2 (hn h .mk) (by simp only [AG]; omega)
 have a61 := l6.2 (hn h .mk + 1) (by simp only [AG]; omega)
 have a62 := l6.2 (hn h .mk + 1 + 1) (by simp only [AG]; omega)
 simp -dsimp -implicitDefEqProofs only [go_sem, a50, a51, Av] at n6 a60 a61 a62
 have L6 : h.le g6 := H2.le.trans AZ l6
 refine DH a60 a62 ce6 ?_
 refine AA (Ck (F := fun j => F (j + 7)) (by omega)) ?_
 rintro _ g7 ⟨l7, ys7, b7, rfl, o7, bl7⟩
 obtain ⟨b7_1, s8, b7_2, s9, rfl, hb7, o7_1, o7_2⟩ := Dt o7
 have ce8 := OT.cell o7_1
 have ce9 := OT.cell o7_2
 have n7 := l7.n
 have a70 := l7.2 (hn h .mk) (by simp only [AG]; omega)
 have a71 := l7.2 (hn h .mk + 1) (by simp only [AG]; omega)
 have a72 := l7.2 (hn h .mk + 1 + 1) (by simp only [AG]; omega)
 simp -dsimp -implicitDefEqProofs only [go_sem, a60, a61, Av] at n7 a70 a71 a72
 have L7 : h.le g7 := H2.le.trans AZ l7
 refine Cu a70 a72 ce8 ce9 ?_
 refine AA (Q0 (F := fun j => F (j + 12)) (by omega)) ?_
 rintro _ g8 ⟨l8, ys8, b8, rfl, o8, bl8⟩
 obtain ⟨b8_0, s12, b8_1, s13, rfl, hb8, o8_0, o8_1⟩ := YI o8
 have ce12 := OT.cell o8_0
 have ce13 := OT.cell o8_1
 have n8 := l8.n
 have a80 := l8.2 (hn h .mk) (by simp only [AG]; omega)
 have a81 := l8.2 (hn h .mk + 1) (by simp only [AG]; omega)
 have a82 := l8.2 (hn h .mk + 1 + 1) (by simp only [AG]; omega)
 simp -dsimp -implicitDefEqProofs only [go_sem, a70, a71, Av] at n8 a80 a81 a82
 have L8 : h.le g8 := H2.le.trans AZ l8
 repeat (first | rw [ko] | rw [kr] | simp -dsimp -implicitDefEqProofs only [go_sem, sQ1, sQ2, a81, a82, ce3, ce4, ce5, ce6, ce8, ce9, ce12, ce13])
 refine ⟨AZ, _, b3 ++ (b4 ++ (b5 ++ (b6 ++ (b7_1 ++ (b7_2 ++ (b8_0 ++ b8_1)))))), rfl, Qd (c := c) ?_ ?_ ?_ ?_ ?_ ?_ ?_ ?_, ?_⟩
 ·refine OT.frame o3 fun b hb => ?_
  have hbl := bl3.2 b (hb)
  simp only [AB, AG] at hbl
  simp only [H2.set]
  rw [if_neg (by omega), if_neg (by omega)]
  rw [show g8.get b = _ from l8.2 b (by simp only [AG]; omega)]
  simp only [hg, H2.set]
  rw [if_neg (by omega)]
  rw [show g7.get b = _ from l7.2 b (by simp only [AG]; omega)]
  simp only [hg, H2.set]
  rw [if_neg (by omega)]
  rw [show g6.get b = _ from l6.2 b (by simp only [AG]; omega)]
  simp only [hg, H2.set]
  rw [if_neg (by omega)]
  rw [show g5.get b = _ from l5.2 b (by simp only [AG]; omega)]
  simp only [hg, H2.set]
  rw [if_neg (by omega)]
  rw [show g4.get b = _ from l4.2 b (by simp only [AG]; omega)]
  simp only [hg, H2.set]
  rw [if_neg (by omega)]
 ·refine OT.frame o4 fun b hb => ?_
  have hbl := bl4.2 b (hb)
  simp only [AG] at hbl
  simp only [H2.set]
  rw [if_neg (by omega), if_neg (by omega)]
  rw [show g8.get b = _ from l8.2 b (by simp only [AG]; omega)]
  simp only [hg, H2.set]
  rw [if_neg (by omega)]
  rw [show g7.get b = _ from l7.2 b (by simp only [AG]; omega)]
  simp only [hg, H2.set]
  rw [if_neg (by omega)]
  rw [show g6.get b = _ from l6.2 b (by simp only [AG]; omega)]
  simp only [hg, H2.set]
  rw [if_neg (by omega)]
  rw [show g5.get b = _ from l5.2 b (by simp only [AG]; omega)]
  simp only [hg, H2.set]
  rw [if_neg (by omega)]
 ·refine OT.frame o5 fun b hb => ?_
  have hbl := bl5.2 b (hb)
  simp only [AG] at hbl
  simp only [H2.set]
  rw [if_neg (by omega), if_neg (by omega)]
  rw [show g8.get b = _ from l8.2 b (by simp only [AG]; omega)]
  simp only [hg, H2.set]
  rw [if_neg (by omega)]
  rw [show g7.get b = _ from l7.2 b (by simp only [AG]; omega)]
  simp only [hg, H2.set]
  rw [if_neg (by omega)]
  rw [show g6.get b = _ from l6.2 b (by simp only [AG]; omega)]
  simp only [hg, H2.set]
  rw [if_neg (by omega)]
 ·refine OT.frame o6 fun b hb => ?_
  have hbl := bl6.2 b (hb)
  simp only [AG] at hbl
  simp only [H2.set]
  rw [if_neg (by omega), if_neg (by omega)]
  rw [show g8.get b = _ from l8.2 b (by simp only [AG]; omega)]
  simp only [hg, H2.set]
  rw [if_neg (by omega)]
  rw [show g7.get b = _ from l7.2 b (by simp only [AG]; omega)]
  simp only [hg, H2.set]
  rw [if_neg (by omega)]
 ·refine OT.frame o7_1 fun b hb => ?_
  have hbl := bl7.2 b (by rw [hb7]; simp [hb])
  simp only [AG] at hbl
  simp only [H2.set]
  rw [if_neg (by omega), if_neg (by omega)]
  rw [show g8.get b = _ from l8.2 b (by simp only [AG]; omega)]
  simp only [hg, H2.set]
  rw [if_neg (by omega)]
 ·refine OT.frame o7_2 fun b hb => ?_
  have hbl := bl7.2 b (by rw [hb7]; simp [hb])
  simp only [AG] at hbl
  simp only [H2.set]
  rw [if_neg (by omega), if_neg (by omega)]
  rw [show g8.get b = _ from l8.2 b (by simp only [AG]; omega)]
  simp only [hg, H2.set]
  rw [if_neg (by omega)]
 ·refine OT.frame o8_0 fun b hb => ?_
  have hbl := bl8.2 b (by rw [hb8]; simp [hb])
  simp only [AG] at hbl
  simp only [H2.set]
  rw [if_neg (by omega), if_neg (by omega)]
 ·refine OT.frame o8_1 fun b hb => ?_
  have hbl := bl8.2 b (by rw [hb8]; simp [hb])
  simp only [AG] at hbl
  simp only [H2.set]
  rw [if_neg (by omega), if_neg (by omega)]
 ·simp only [AG]
  have m3 := bl3
  simp only [AB, AG] at m3
  have m4 := bl4
  simp only [AG] at m4
  have m5 := bl5
  simp only [AG] at m5
  have m6 := bl6
  simp only [AG] at m6
  have m7 := bl7
  simp only [AG] at m7
  rw [hb7] at m7
  have m8 := bl8
  simp only [AG] at m8
  rw [hb8] at m8
  have := ((Bl.append m3 (Bl.append m4 (Bl.append m5 (Bl.append m6 (Bl.append m7 m8 (by omega) (by omega)) (by omega) (by omega)) (by omega) (by omega)) (by omega) (by omega)) (by omega) (by omega))).wide (N' := hn h .mk) (by omega) (Nat.le_refl _)
  simpa only [List.append_assoc] using this
end Go.Bi
end
section
set_option maxRecDepth 20000
namespace Go.Bi
open Go.Proofs
open Go.Ai (wrap_i64 wrap_u64 wrap_u8)
variable {W0 : World}
structure Ac where
 top : Int
 seed : Int
 new : Int
 stops : List ByteArray
instance : Inhabited Ac := ⟨⟨default, default, default, default⟩⟩
def Cr (c : Ac) : List T := [.v (.int .i64 c.top), .v (.int .i64 c.seed), .v (.int .i64 c.new), .l 1 (strs c.stops)]
def BR (F : Nat → AQ) (c : Ac) : List X := [.raw (.int .i64 c.top), .raw (.int .i64 c.seed), .raw (.int .i64 c.new), .sl (F 3) 1 (strs c.stops)]
theorem Po {F : Nat → AQ} {c : Ac} : BR F c = [.raw (.int .i64 c.top), .raw (.int .i64 c.seed), .raw (.int .i64 c.new), .sl (F 3) 1 (strs c.stops)] := rfl
def Ft (c : Ac) : Nat := (c.stops.length + OX c.stops)
def Eb (c : Ac) : Nat := c.stops.length
def Cq (c : Ac) : Prop := (c.stops.length ≤ 9223372036854775807 ∧ ∀ s ∈ c.stops, s.size ≤ 9223372036854775807)
attribute [go_sem] Po
theorem NO {g : H2} {bs : List Nat} {ys : List X} {c : Ac} (o : Ak g bs ys (Cr c)) : ∃ b3 s3, ys = [.raw (.int .i64 c.top), .raw (.int .i64 c.seed), .raw (.int .i64 c.new), s3] ∧ bs = b3 ∧ OT g b3 s3 (.l 1 (strs c.stops)) := by
 unfold Cr at o
 obtain ⟨ys0, rfl, o0⟩ := Ak.headv o
 obtain ⟨ys1, rfl, o1⟩ := Ak.headv o0
 obtain ⟨ys2, rfl, o2⟩ := Ak.headv o1
 obtain ⟨b3, bs3, s3, ys3, rfl, rfl, a3, o3⟩ := Ak.head o2
 obtain ⟨rfl, rfl⟩ := Ak.tail0 o3
 exact ⟨_, _, rfl, by simp only [List.append_nil], a3⟩
theorem Nl {g : H2} {c : Ac} {b3 : List Nat} {s3 : X} (a3 : OT g b3 s3 (.l 1 (strs c.stops))) : Ak g (b3) [.raw (.int .i64 c.top), .raw (.int .i64 c.seed), .raw (.int .i64 c.new), s3] (Cr c) := by
 have := Ak.cons (OT.raw (v := .int .i64 c.top) rfl) (Ak.cons (OT.raw (v := .int .i64 c.seed) rfl) (Ak.cons (OT.raw (v := .int .i64 c.new) rfl) (Ak.cons a3 (Ak.nil))))
 simpa only [Cr, List.append_nil, List.nil_append] using this
theorem QC {F : Nat → AQ} {c : Ac} {left : Int} {h : H2} (hf : Cq c) (hl : 0 ≤ left ∧ left ≤ 1048576) : PW Tryz.prog W0 33 [.st (BR F c), .raw (.int .i64 left)] h (fun y => ∃ k : Int, y = .raw (.int .i64 k) ∧ (0 ≤ k → (Ft c : Int) + k ≤ left)) := by
 unfold Cq at hf
 refine PW.scalar ?_
 refine AH [[0, 1], [1, 2], [1], [], [1]] Tryz.func33 rfl (rs := [.tmp 4]) rfl rfl ?_
 intro wf
 refine zr ?_
 refine AD (PG  hf ⟨by omega, by omega⟩) ?_
 rintro _ n3 hn3 ⟨k3, rfl, hk3⟩
 refine zr ?_
 refine AN (fun q3 => ?_) (fun q3 => ?_)
 ·refine zr ?_
  exact ⟨AZ, ⟨_, rfl⟩, _, rfl, fun hh => by omega⟩
 refine zr ?_
 exact ⟨AZ, ⟨_, rfl⟩, _, rfl, fun hh => by unfold Ft; omega⟩
theorem QS {F F' : Nat → AQ} {c : Ac} {h : H2} (hf : Cq c) : PW Tryz.prog W0 37 [.st (BR F c), .st (BR F' c)] h (fun y => y = .raw (.bool true)) := by
 unfold Cq at hf
 refine PW.scalar ?_
 refine AH [[0, 1], [2, 3], [], [2, 3], [], [2, 3], [], [2, 3], [], []] Tryz.func37 rfl (rs := [.tmp 4]) rfl rfl ?_
 intro wf
 refine zr ?_
 refine AD (OS  hf.1) ?_
 rintro _ n3 hn3 rfl
 refine zr ?_
 exact ⟨AZ, ⟨_, rfl⟩, rfl⟩
structure Oq where
 pages : List Int
 count : Int
instance : Inhabited Oq := ⟨⟨default, default⟩⟩
structure QB where
 prompt : Int
 tokens : List Int
 config : Ac
 state : Int
 table : Oq
 status : Int
instance : Inhabited QB := ⟨⟨default, default, default, default, default, default⟩⟩
structure gy where
 op : Int
 text : ByteArray
 pos : Int
 config : Ac
 picks : List Int
instance : Inhabited gy := ⟨⟨default, default, default, default, default⟩⟩
end Go.Bi
end
section
set_option maxRecDepth 20000
namespace Go.Bi
open Go.Proofs
open Go.Ai (wrap_i64 wrap_u64 wrap_u8)
variable {W0 : World}
theorem FT {F : Nat → AQ} {c : Ac} {h : H2} (hs : Ft c ≤ 1048576) : Tz Tryz.prog W0 35 [.st (BR F c)] h (Cr c) := by
 unfold Ft at hs
 refine AH [[0], [1, 2], [1, 2, 3], [1, 2, 3], [1, 2, 3], [1, 2, 3], [2, 3]] Tryz.func35 rfl (rs := [.cell 2 72]) rfl rfl ?_
 intro wf
 refine zr ?_
 refine AA (M7  (by omega)) ?_
 rintro s3 g3 ⟨l3, b3, o3, bl3⟩
 have ce3 := OT.cell o3
 have n3 := l3.n
 have a30 := l3.2 (hn h .mk) (by simp only [AB, AG]; omega)
 have a31 := l3.2 (hn h .mk + 1) (by simp only [AB, AG]; omega)
 have a32 := l3.2 (hn h .mk + 1 + 1) (by simp only [AB, AG]; omega)
 simp -dsimp -implicitDefEqProofs only [go_sem, Av] at n3 a30 a31 a32
 have L3 : h.le g3 := H2.le.trans AZ l3
 refine DH a31 a32 ce3 ?_
 refine ⟨AZ, _, b3, rfl, Nl (c := c) ?_, ?_⟩
 ·refine OT.frame o3 fun b hb => ?_
  have hbl := bl3.2 b (hb)
  simp only [AB, AG] at hbl
  simp only [H2.set]
  rw [if_neg (by omega), if_neg (by omega)]
 ·simp only [AG]
  have m3 := bl3
  simp only [AB, AG] at m3
  have := (m3).wide (N' := hn h .mk) (by omega) (Nat.le_refl _)
  simpa only [List.append_assoc] using this
end Go.Bi
end
section
set_option maxRecDepth 20000
namespace Go.Bi
open Go.Proofs
open Go.Ai (wrap_i64 wrap_u64 wrap_u8)
variable {W0 : World}
theorem FG {g : H2} {b b' : List Nat} {x x' : X} {zs : List Int} (o : OT g b x (.l 1 (ints zs))) (o' : OT g b' x' (.l 1 (ints zs))) (hn0 : zs.length ≤ 9223372036854775807) : PW Tryz.prog W0 16 [x, x'] g (fun y => y = .raw (.bool true)) := by
 obtain ⟨f, hf⟩ := o.lent
 obtain ⟨f', hf'⟩ := o'.lent
 exact PW.lend (.cons hf (.cons hf' .nil)) (Fg hn0) (fun y h => by subst h; exact .raw)
theorem IG {g : H2} {b : List Nat} {x : X} {zs : List Int} {k k' : Int} (o : OT g b x (.l 1 (ints zs))) (hd : ∀ f g, PW Tryz.prog W0 24 [.sl f 1 (ints zs), .raw (.int .i64 k)] g (fun y => y = .raw (.int .i64 k'))) : PW Tryz.prog W0 24 [x, .raw (.int .i64 k)] g (fun y => y = .raw (.int .i64 k')) := by
 obtain ⟨f, hf⟩ := o.lent
 exact PW.lend (.cons hf (.cons Mq .nil)) (hd f _) (fun y h => by subst h; exact .raw)
theorem M4 {g : H2} {c : Ac} {bs bs' : List Nat} {ys ys' : List X} (o : Ak g bs ys (Cr c)) (o' : Ak g bs' ys' (Cr c)) (hf : Cq c) : PW Tryz.prog W0 37 [.st ys, .st ys'] g (fun y => y = .raw (.bool true)) := by
 obtain ⟨F, hF⟩ := o.lent
 obtain ⟨F', hF'⟩ := o'.lent
 exact PW.lend (.cons hF (.cons hF' .nil)) (QS (F := F) (F' := F') hf) (fun y h => by subst h; exact .raw)
end Go.Bi
end
section
set_option maxRecDepth 20000
namespace Go.Bi
open Go.Proofs
open Go.Ai (wrap_i64 wrap_u64 wrap_u8 Heap)
variable {W0 : World} {P : Program}
def hY (f : AQ) (z : Nat) (es : List (List T)) (hh l : Option Nat) : Option X := match hh, l with
 | some hh, some l => some (.sl (PO f l (hh - l) z) z ((es.drop l).take (hh - l)))
 | _, _ => none
def cT (hh : Option Nat) (lo : Option X) : Option Nat := match hh with | some hh => Be hh lo 0 | none => none
theorem Wb {f : AQ} {z : Nat} {es : List (List T)} {hh l : Nat} : hY f z es (some hh) (some l) = some (.sl (PO f l (hh - l) z) z ((es.drop l).take (hh - l))) := rfl
theorem VB {hh : Nat} {lo : Option X} : cT (some hh) lo = Be hh lo 0 := rfl
theorem Yr {t z : Nat} {h : H2} {f : AQ} {es : List (List T)} {lo hi : Option X} (h1 : (Go.Ai.eltZ (Go.Ai.elt? P t) == z) = true) (he : (Go.Ai.elt? P t).isSome = true) :
  KA P h t (.sl f z es) lo hi none .mk = hY f z es (Be es.length hi es.length) (cT (Be es.length hi es.length) lo) := by
 simp only [KA, If]
 cases hq : Go.Ai.elt? P t with
 | none => rw [hq] at he; cases he
 | some q =>
  obtain ⟨u, s, b⟩ := q
  rw [hq] at h1
  simp only [Go.Ai.eltZ, beq_iff_eq] at h1
  simp only [Option.isSome_none, Bool.false_eq_true, if_false, if_pos h1, hY, cT]
  cases Be es.length hi es.length with
  | none => rfl
  | some hh => dsimp only; cases Be hh lo 0 <;> rfl
theorem Zz {n d : Nat} : Be n none d = some d := rfl
theorem bu {n d : Nat} {k : IntKind} {i : Int} (h0 : 0 ≤ i) (h1 : i ≤ n) : Be n (some (.raw (.int k i))) d = some i.toNat := by
 simp only [Be]; rw [if_pos ⟨h0, h1⟩]
theorem VV {zs : List Int} {n : Nat} : (ints zs).drop n = ints (zs.drop n) := by simp [ints]
theorem Vi {zs : List Int} {n : Nat} : (ints zs).take n = ints (zs.take n) := by simp [ints]
attribute [go_sem] Wb VB Yr Zz bu VV Vi
theorem A7.asm {f : FuncId} {xs : List X} {g : H2} {K : X → H2 → Prop} (c : ∀ h, S g h → (∀ x ∈ xs, Ok h g x) → A7 P W0 f xs g K) : A7 P W0 f xs g K := fun h s o => c h s o h s o
theorem c9 {h : Heap} {g : H2} {f : AQ} {z : Nat} {es : List (List T)} (o : Ok h g (.sl f z es)) (hn : Qt (f []) = true) : es = [] := by
 cases o with
 | sl r =>
  cases r with
  | o h1 => rfl
  | l a c h1 h2 h3 h4 =>
   rcases h3 with ⟨_, h5⟩ | ⟨b, off, w, k, cs, rfl, _⟩
   ·exact h5
   ·rw [h1] at hn; cases hn
theorem Ng {f : AQ} : ∀ {zs : List Int} {i : Nat}, CC f i (ints zs) = zs.map cI
 | [], _ => rfl
 | z :: zs, i => by
  have := Ng (f := f) (zs := zs) (i := i + 1)
  simp only [ints, List.map_cons, CC, eI, Gv, Qz, List.cons_append, List.nil_append, cI] at *
  rw [this]
theorem Xq {g : H2} {f : AQ} {zs : List Int} : E0 g 1 (.sl f 1 (ints zs)) = some (zs.length, zs.map cI) := by
 simp only [E0, if_true, Ng, Ff]
theorem Zp {zs : List Int} : (zs.map cI).all FC = true := by simp [cI, FC]
theorem G3 {D : Nat → Option (List Nat)} {g : H2} {K : KT} {t u U y N : Nat} {xs zs : List Int} {x : X} {f : AQ} (he : Go.Ai.elt? P t = some (U, 1, y)) (hz : Go.Ai.zr? P U = some [.int .i64 0]) (hu : Go.Ai.cls? P u = some .sl)
  (hx : Al N g x xs) (hN0 : N ≤ hn g .mk) (hn0 : (xs.length + zs.length) * (y + 1) ≤ Go.Ai.most)
  (hk : ∀ v' g', Al N g' v' (xs ++ zs) → hn g .mk ≤ hn g' .mk → (∀ g0 : H2, hn g0 .mk ≤ N → g0.le g → g0.le g') → (∀ b, b < hn g .mk → AP x ≠ some b → hg g' b .mk = hg g b .mk) → kz K v' g' .mk) :
  az (EN P g .append [t, u] [x, .sl f 1 (ints zs)] .mk) K .mk := by
 refine DO (z := 0) (N := N) he hz rfl hu hx hN0 Xq (by simp) Zp hn0 ?_
 intro v' g' o
 refine hk v' g' ?_
 unfold Al
 rw [List.map_append, List.length_append]
 exact o
theorem NK {f : AQ} {zs : List Int} {g : H2} (hn0 : zs.length ≤ 1048576) : PI Tryz.prog W0 132 [.sl f 1 (ints zs)] g zs := by
 refine A7.asm fun hp s o => ?_
 have hnil := c9 (o _ List.mem_cons_self)
 refine AH [[0], [0], [], [0]] Tryz.func132 rfl (rs := [.tmp 2]) rfl rfl ?_
 intro wf
 refine zr ?_
 refine EA (fun h1 => ?_) (fun h1 => ?_)
 ·have : zs = [] := by have := hnil h1; simpa [ints] using this
  subst this
  refine zr ?_
  exact ⟨H2.le.refl _, Own.nil⟩
 ·refine zr ?_
  refine G3 (D := fun _ => none) (N := hn g .mk) (xs := []) Go.Ai.ty_el25 Go.Ai.ty_zr3 Go.Ai.ty_cl25 (Own.new (Nat.le_refl _) rfl) (by simp only [AB]; omega) (by simp; have : Go.Ai.most = 1099511627776 := rfl; omega) ?_
  intro v' g' o' hn' hle _
  refine zr ?_
  exact ⟨hle g (Nat.le_refl _) (H2.le_push1 g _), by simpa using o'⟩
theorem Pq {x a b : Int} (h : inI x a b = true) : a ≤ x ∧ x ≤ b := by simpa [inI] using h
end Go.Bi
end
section
set_option maxRecDepth 20000
namespace Go.Bi
open Go.Proofs
open Go.Ai (wrap_i64 wrap_u64 wrap_u8 Heap)
variable {W0 : World} {P : Program}
theorem Dc {α : Type} [Inhabited α] {ss : List α} {p : α → Bool} {k : Nat} (hk : k < ss.length) (h : p (ss.getD k default) = true) : ss.any p = true :=
 List.any_eq_true.2 ⟨_, List.getElem_mem hk, by rw [List.getD_eq_getElem?_getD, List.getElem?_eq_getElem hk] at h; exact h⟩
theorem any_none {α : Type} [Inhabited α] {ss : List α} {p : α → Bool} (h : ∀ j, j < ss.length → p (ss.getD j default) = false) : ss.any p = false := by
 rw [List.any_eq_false]
 intro x hx
 obtain ⟨j, hj, rfl⟩ := List.getElem_of_mem hx
 have := h j hj
 rw [List.getD_eq_getElem?_getD, List.getElem?_eq_getElem hj] at this
 simpa using this
theorem all_none {α : Type} [Inhabited α] {ss : List α} {p : α → Bool} {k : Nat} (hk : k < ss.length) (h : p (ss.getD k default) = false) : ss.all p = false := by
 rw [List.all_eq_not_any_not, Dc hk (p := fun x => !p x) (by simp only [h]; rfl)]; rfl
theorem QJ {α : Type} [Inhabited α] {ss : List α} {p : α → Bool} (h : ∀ j, j < ss.length → p (ss.getD j default) = true) : ss.all p = true := by
 rw [List.all_eq_not_any_not, any_none (p := fun x => !p x) (fun j hj => by simp only [h j hj]; rfl)]; rfl
theorem UZ {F : FuncId} {p : ByteArray → Bool} {caps : List Value} {f : AQ} {ss : List ByteArray} {h : H2} (hn0 : ss.length ≤ 9223372036854775807)
  (hf : ∀ s, A7 Tryz.prog W0 F ([.raw (.string s)] ++ caps.map .raw) h (fun v h' => v = .raw (.bool (p s)) ∧ h' = h)) :
  A7 Tryz.prog W0 232 [.sl f 1 (strs ss), .raw (.func (.func F) #[] caps.toArray)] h (fun v h' => (∃ k : Int, v = .raw (.int .i64 k) ∧ decide (0 ≤ k) = ss.any p) ∧ h' = h) := by
 refine AH [[0, 1], [0, 1], [0, 1, 7, 8], [0, 1, 7, 8], [0, 1, 5, 7, 8], [5], [0, 1, 7, 8], []] Tryz.func232 rfl (rs := [.tmp 4]) rfl rfl ?_
 intro wf
 refine zr ?_
 refine AJ [0, 1, 7] (fun m e h' => h' = h ∧ ∃ k : Nat, look e 8 .mk = .raw (.int .i64 k) ∧ m + k = ss.length ∧ ∀ j : Nat, j < k → p (ss.getD j default) = false) ss.length ?_ ?_
 ·exact ⟨rfl, 0, AL, by omega, fun j hj => by omega⟩
 ·rintro m e h hks ⟨rfl, k, e8, hk, hpre⟩
  simp -dsimp -implicitDefEqProofs only [go_sem, sQ1] at hks
  refine C5 hks e8 ?_
  refine AN (fun h2 => ?_) (fun h2 => ?_)
  ·have h3 : k < ss.length := by omega
   refine A1 h3 ?_
   refine AA (hf _) ?_
   rintro _ h' ⟨rfl, rfl⟩
   refine zr ?_
   refine EA (fun h4 => ?_) (fun h4 => ?_)
   ·refine zr ?_
    exact ⟨⟨_, rfl, by rw [Dc h3 h4]; simp⟩, rfl⟩
   ·refine A1 (AU h3 hn0) ?_
    refine AI (m - 1) (by omega) AL ⟨rfl, k + 1, AL, by omega, fun j hj => ?_⟩
    by_cases hji : j = k
    ·subst hji; exact h4
    ·exact hpre j (by omega)
  ·refine zr ?_
   exact ⟨⟨_, rfl, by rw [any_none fun j hj => hpre j (by omega)]; rfl⟩, rfl⟩
theorem Of {F : FuncId} {p : ByteArray → Bool} {caps : List Value} {f : AQ} {ss : List ByteArray} {h : H2} (hn0 : ss.length ≤ 9223372036854775807)
  (hf : ∀ s, A7 Tryz.prog W0 F ([.raw (.string s)] ++ caps.map .raw) h (fun v h' => v = .raw (.bool (p s)) ∧ h' = h)) :
  A7 Tryz.prog W0 195 [.sl f 1 (strs ss), .raw (.func (.func F) #[] caps.toArray)] h (fun v h' => v = .raw (.bool (ss.any p)) ∧ h' = h) := by
 refine AH [[0, 1], [0, 1]] Tryz.func195 rfl (rs := [.tmp 4]) rfl rfl ?_
 intro wf
 refine zr ?_
 refine AA (UZ hn0 hf) ?_
 rintro _ h' ⟨⟨k, rfl, hk⟩, rfl⟩
 repeat (first | rw [ko] | rw [kr] | simp -dsimp -implicitDefEqProofs only [go_sem, hk])
 exact ⟨rfl, rfl⟩
theorem GR {F : FuncId} {p : Int → Bool} {caps : List Value} {f : AQ} {ss : List Int} {h : H2} (hn0 : ss.length ≤ 9223372036854775807)
  (hf : ∀ s, A7 Tryz.prog W0 F ([.raw (.int .i64 s)] ++ caps.map .raw) h (fun v h' => v = .raw (.bool (p s)) ∧ h' = h)) :
  A7 Tryz.prog W0 173 [.sl f 1 (ints ss), .raw (.func (.func F) #[] caps.toArray)] h (fun v h' => v = .raw (.bool (ss.any p)) ∧ h' = h) := by
 refine AH [[0, 1], [0, 1]] Tryz.func173 rfl (rs := [.tmp 4]) rfl rfl ?_
 intro wf
 refine zr ?_
 refine AA (Ju hn0 hf) ?_
 rintro _ h' ⟨⟨k, rfl, hk⟩, rfl⟩
 repeat (first | rw [ko] | rw [kr] | simp -dsimp -implicitDefEqProofs only [go_sem, hk])
 exact ⟨rfl, rfl⟩
theorem Jx {b1 b2 z1 z2 : Nat} {x y : Int} {h : H2} (h1 : hg h b1 .mk = some ⟨z1, [.raw (.int .i64 x)]⟩) (h2 : hg h b2 .mk = some ⟨z2, [.raw (.int .i64 y)]⟩) (s : Int) :
  A7 Tryz.prog W0 174 ([.raw (.int .i64 s)] ++ [Value.pointer (some ⟨b1, 0, none⟩), .pointer (some ⟨b2, 0, none⟩)].map .raw) h (fun v h' => v = .raw (.bool (!inI s x y)) ∧ h' = h) := by
 simp only [List.cons_append, List.nil_append, List.map_cons, List.map_nil]
 refine AH [[0, 1, 2], [0, 1, 2]] Tryz.func174 rfl (rs := [.tmp 4]) rfl rfl ?_
 intro wf
 refine C5 h1 h2 ?_
 refine AA BQ ?_
 rintro _ h' ⟨rfl, rfl⟩
 refine zr ?_
 exact ⟨rfl, rfl⟩
def allI (zs : List Int) (x y : Int) : Bool := zs.all fun s => inI s x y
theorem BN {f : AQ} {zs : List Int} {x y : Int} {h : H2} (hn0 : zs.length ≤ 9223372036854775807) :
  PW Tryz.prog W0 123 [.sl f 1 (ints zs), .raw (.int .i64 x), .raw (.int .i64 y)] h (fun r => r = .raw (.bool (allI zs x y))) := by
 refine PW.scalar ?_
 refine AH [[0, 1, 2], [0, 4, 5]] Tryz.func123 rfl (rs := [.tmp 6]) rfl rfl ?_
 intro wf
 refine zr ?_
 refine AA (GR hn0 (Jx (x := x) (y := y) (z1 := 1) (z2 := 1) ?_ ?_)) ?_
 ·simp -dsimp -implicitDefEqProofs only [go_sem]
 ·simp -dsimp -implicitDefEqProofs only [go_sem]
 rintro _ h' ⟨rfl, rfl⟩
 refine zr ?_
 exact ⟨le_push (H2.le_push1 h _), ⟨_, rfl⟩, by rw [allI, List.all_eq_not_any_not]⟩
theorem BB {f : AQ} {zs : List Int} {x y : Int} {h : H2} (hn0 : zs.length ≤ 9223372036854775807) :
  PW Tryz.prog W0 102 [.sl f 1 (ints zs), .raw (.int .i64 x), .raw (.int .i64 y)] h (fun r => r = .raw (.bool (allI zs x y))) := by
 refine PW.scalar ?_
 refine AH [[0, 1, 2], [0, 1, 2], [0, 1, 2, 7], [0, 1, 2, 7], [0, 1, 2, 7], [], []] Tryz.func102 rfl (rs := [.tmp 6]) rfl rfl ?_
 intro wf
 refine zr ?_
 refine AJ [0, 1, 2] (fun m e h' => h' = h ∧ ∃ k : Nat, look e 7 .mk = .raw (.int .i64 k) ∧ m + k = zs.length ∧ ∀ j : Nat, j < k → inI (zs.getD j default) x y = true) zs.length ?_ ?_
 ·exact ⟨rfl, 0, AL, by omega, fun j hj => by omega⟩
 ·rintro m e h hks ⟨rfl, k, e4, hk, hpre⟩
  simp -dsimp -implicitDefEqProofs only [go_sem, sQ1] at hks
  refine C5 hks e4 ?_
  refine AN (fun h2 => ?_) (fun h2 => ?_)
  ·have h3 : k < zs.length := by omega
   refine A1 h3 ?_
   refine AA Ab ?_
   rintro _ h' ⟨rfl, rfl⟩
   cases hi : inI (zs.getD k default) x y
   ·refine zr ?_
    exact ⟨H2.le.refl _, ⟨_, rfl⟩, by rw [allI, all_none h3 hi]⟩
   ·refine A1 (AU h3 hn0) ?_
    refine AI (m - 1) (by omega) AL ⟨rfl, k + 1, AL, by omega, fun j hj => ?_⟩
    by_cases hji : j = k
    ·subst hji; exact hi
    ·exact hpre j (by omega)
  ·refine zr ?_
   exact ⟨H2.le.refl _, ⟨_, rfl⟩, by rw [allI, QJ fun j hj => hpre j (by omega)]⟩
def Ku (ss : List ByteArray) : Bool := ss.all fun s => inI s.size 1 8
def DV (c : Ac) : Bool := inI c.top 1 8 && (inI c.seed 0 1000000000 && (inI c.new 1 24 && (decide ((c.stops.length : Int) ≤ 3) && Ku c.stops)))
theorem aM (s : ByteArray) {h : H2} : A7 Tryz.prog W0 196 ([.raw (.string s)] ++ ([] : List Value).map .raw) h (fun v h' => v = .raw (.bool (!inI s.size 1 8)) ∧ h' = h) := by
 simp only [List.map_nil, List.append_nil]
 refine AH [[0], [0]] Tryz.func196 rfl (rs := [.tmp 2]) rfl rfl ?_
 intro wf
 refine zr ?_
 refine AA BQ ?_
 rintro _ h' ⟨rfl, rfl⟩
 refine zr ?_
 exact ⟨rfl, rfl⟩
theorem Gp {F : Nat → AQ} {c : Ac} {h : H2} (hn0 : c.stops.length ≤ 9223372036854775807) : PW Tryz.prog W0 146 [.st (BR F c)] h (fun r => r = .raw (.bool (DV c))) := by
 refine PW.scalar ?_
 refine AH [[0], [1]] Tryz.func146 rfl (rs := [.tmp 2]) rfl rfl ?_
 intro wf
 refine zr ?_
 refine AA BQ ?_
 rintro _ h' ⟨rfl, rfl⟩
 unfold DV
 cases h1 : inI c.top 1 8
 ·refine zr ?_
  exact ⟨H2.le_push1 h _, ⟨_, rfl⟩, rfl⟩
 refine zr ?_
 refine AA BQ ?_
 rintro _ h' ⟨rfl, rfl⟩
 cases h2 : inI c.seed 0 1000000000
 ·refine zr ?_
  exact ⟨H2.le_push1 h _, ⟨_, rfl⟩, rfl⟩
 refine zr ?_
 refine AA BQ ?_
 rintro _ h' ⟨rfl, rfl⟩
 cases h3 : inI c.new 1 24
 ·refine zr ?_
  exact ⟨H2.le_push1 h _, ⟨_, rfl⟩, rfl⟩
 refine zr ?_
 refine AN (fun h4 => ?_) (fun h4 => ?_)
 ·refine A1 h4 ?_
  refine AA (Of (caps := []) hn0 (fun s => aM s)) ?_
  rintro _ h' ⟨rfl, rfl⟩
  refine A1 h4 ?_
  exact ⟨H2.le_push1 h _, ⟨_, rfl⟩, by simp only [Ku, List.all_eq_not_any_not, h4, decide_true, Bool.true_and]⟩
 ·refine A1 h4 ?_
  exact ⟨H2.le_push1 h _, ⟨_, rfl⟩, by simp only [h4, decide_false, Bool.true_and, Bool.false_and]⟩
theorem Gw {F : Nat → AQ} {c : Ac} {h : H2} (hn0 : c.stops.length ≤ 9223372036854775807) : PW Tryz.prog W0 144 [.st (BR F c)] h (fun r => r = .raw (.bool (DV c))) := by
 refine PW.scalar ?_
 refine AH [[0], [1], [], [1], [1, 3], [1, 3], [1, 3], [], []] Tryz.func144 rfl (rs := [.tmp 2]) rfl rfl ?_
 intro wf
 refine zr ?_
 refine AA Ab ?_
 rintro _ h' ⟨rfl, rfl⟩
 unfold DV
 cases h1 : inI c.top 1 8
 ·refine zr ?_
  exact ⟨H2.le_push1 h _, ⟨_, rfl⟩, rfl⟩
 refine zr ?_
 refine AA Ab ?_
 rintro _ h' ⟨rfl, rfl⟩
 cases h2 : inI c.seed 0 1000000000
 ·refine zr ?_
  exact ⟨H2.le_push1 h _, ⟨_, rfl⟩, rfl⟩
 refine zr ?_
 refine AA Ab ?_
 rintro _ h' ⟨rfl, rfl⟩
 cases h3 : inI c.new 1 24
 ·refine zr ?_
  exact ⟨H2.le_push1 h _, ⟨_, rfl⟩, rfl⟩
 refine zr ?_
 refine AN (fun h4 => ?_) (fun h4 => ?_)
 ·have h5 : ¬ (c.stops.length : Int) ≤ 3 := by omega
  refine zr ?_
  exact ⟨H2.le_push1 h _, ⟨_, rfl⟩, by simp [h5]⟩
 ·have h5 : (c.stops.length : Int) ≤ 3 := by omega
  refine zr ?_
  refine AJ [1] (fun m e h' => h' = h.push ⟨4, BR F c⟩ ∧ ∃ k : Nat, look e 3 .mk = .raw (.int .i64 k) ∧ m + k = c.stops.length ∧ ∀ j : Nat, j < k → inI (c.stops.getD j default).size 1 8 = true) c.stops.length ?_ ?_
  ·exact ⟨by simp only [BR], 0, AL, by omega, fun j hj => by omega⟩
  ·rintro m e h hks ⟨rfl, k, e4, hk, hpre⟩
   simp -dsimp -implicitDefEqProofs only [go_sem] at hks
   refine C5 hks e4 ?_
   refine AN (fun h2 => ?_) (fun h2 => ?_)
   ·have h3 : k < c.stops.length := by omega
    refine A1 h3 ?_
    refine AA Ab ?_
    rintro _ h' ⟨rfl, rfl⟩
    cases hi : inI (c.stops.getD k default).size 1 8
    ·refine zr ?_
     exact ⟨H2.le_push1 _ _, ⟨_, rfl⟩, by rw [Ku, all_none h3 hi]; simp⟩
    ·refine A1 (AU h3 hn0) ?_
     refine AI (m - 1) (by omega) AL ⟨rfl, k + 1, AL, by omega, fun j hj => ?_⟩
     by_cases hji : j = k
     ·subst hji; exact hi
     ·exact hpre j (by omega)
   ·refine zr ?_
    exact ⟨H2.le_push1 _ _, ⟨_, rfl⟩, by rw [Ku, QJ fun j hj => hpre j (by omega)]; simp [h5]⟩
end Go.Bi
end
section
set_option maxRecDepth 20000
namespace Go.Bi
open Go.Proofs
open Go.Ai (wrap_i64 wrap_u64 wrap_u8 Heap)
variable {W0 : World} {P : Program}
set_option maxHeartbeats 2000000
def Bk (n : Int) : Bool := inI n 4 8 && decide (Int.tmod n 4 = 0)
def Dh (r s : List Int) : Bool := Bk r.length && (allI r (-8) 7 && (decide ((s.length : Int) = Int.tdiv r.length 4) && allI s 1 127))
def DA (r : List Int) (n : Int) : Bool := decide ((r.length : Int) = n) && allI r 0 127
theorem Ga {n : Int} {h : H2} : A7 Tryz.prog W0 117 [.raw (.int .i64 n)] h (fun v h' => v = .raw (.bool (Bk n)) ∧ h' = h) := by
 refine AH [[0], [0]] Tryz.func117 rfl (rs := [.tmp 2]) rfl rfl ?_
 intro wf
 refine zr ?_
 refine AA BQ ?_
 rintro _ h' ⟨rfl, rfl⟩
 cases hb : inI n 4 8
 ·refine zr ?_
  exact ⟨by rw [Bk, hb]; rfl, rfl⟩
 ·refine zr ?_
  exact ⟨by rw [Bk, hb]; rfl, rfl⟩
theorem EE {n : Int} {h : H2} : A7 Tryz.prog W0 98 [.raw (.int .i64 n)] h (fun v h' => v = .raw (.bool (Bk n)) ∧ h' = h) := by
 refine AH [[0], [0]] Tryz.func98 rfl (rs := [.tmp 2]) rfl rfl ?_
 intro wf
 refine zr ?_
 refine AA Ab ?_
 rintro _ h' ⟨rfl, rfl⟩
 cases hb : inI n 4 8
 ·refine zr ?_
  exact ⟨by rw [Bk, hb]; rfl, rfl⟩
 ·refine zr ?_
  exact ⟨by rw [Bk, hb]; rfl, rfl⟩
theorem Fw {n : Int} (h : Bk n = true) : n = 4 ∨ n = 8 := by
 unfold Bk inI at h
 simp only [Bool.and_eq_true, decide_eq_true_eq] at h
 obtain ⟨⟨h1, h2⟩, h3⟩ := h
 have h4 : n = 4 ∨ n = 5 ∨ n = 6 ∨ n = 7 ∨ n = 8 := by omega
 rcases h4 with rfl | rfl | rfl | rfl | rfl <;> first | exact .inl rfl | exact .inr rfl | exact absurd h3 (by decide)
theorem Tf {n : Nat} (h : Bk n = true) : IntKind.i64.wrap (Int.tdiv (n : Int) 4) = Int.tdiv (n : Int) 4 := by
 rcases Fw h with h | h <;> rw [h] <;> decide
theorem Qo {f f' : AQ} {r s : List Int} {g : H2} (hr : r.length ≤ 1048576) (hs : s.length ≤ 1048576) : PW Tryz.prog W0 215 [.sl f 1 (ints r), .sl f' 1 (ints s)] g (fun y => y = .raw (.bool (Dh r s))) := by
 refine PW.scalar ?_
 refine AH [[0, 1], [0, 1]] Tryz.func215 rfl (rs := [.tmp 4]) rfl rfl ?_
 intro wf
 refine zr ?_
 refine AA Ga ?_
 rintro _ h' ⟨rfl, rfl⟩
 cases h1 : Bk r.length
 ·refine zr ?_
  exact ⟨H2.le.refl _, ⟨_, rfl⟩, by rw [Dh, h1]; rfl⟩
 refine zr ?_
 refine AD (BN (by omega)) ?_
 rintro _ n1 hn1 rfl
 cases h2 : allI r (-8) 7
 ·refine zr ?_
  exact ⟨AK (H2.le.refl _) hn1, ⟨_, rfl⟩, by rw [Dh, h1, h2]; rfl⟩
 have w1 := Tf h1
 by_cases h3 : (s.length : Int) = Int.tdiv r.length 4
 ·have d3 : decide ((s.length : Int) = Int.tdiv r.length 4) = true := decide_eq_true h3
  refine C5 w1 d3 ?_
  refine AD (BN (by omega)) ?_
  rintro _ n2 hn2 rfl
  rw [AF] at hn2
  refine zr ?_
  exact ⟨AK (AK (H2.le.refl _) hn1) (by rw [AF]; exact hn2), ⟨_, rfl⟩, by rw [Dh, h1, h2, d3]; rfl⟩
 ·have d3 : decide ((s.length : Int) = Int.tdiv r.length 4) = false := decide_eq_false h3
  refine C5 w1 d3 ?_
  exact ⟨AK (H2.le.refl _) hn1, ⟨_, rfl⟩, by rw [Dh, h1, h2, d3]; rfl⟩
theorem Lb {f f' : AQ} {r s : List Int} {g : H2} (hr : r.length ≤ 1048576) (hs : s.length ≤ 1048576) : PW Tryz.prog W0 201 [.sl f 1 (ints r), .sl f' 1 (ints s)] g (fun y => y = .raw (.bool (Dh r s))) := by
 refine PW.scalar ?_
 refine AH [[0, 1], [0, 1]] Tryz.func201 rfl (rs := [.tmp 4]) rfl rfl ?_
 intro wf
 refine zr ?_
 refine AA EE ?_
 rintro _ h' ⟨rfl, rfl⟩
 cases h1 : Bk r.length
 ·refine zr ?_
  exact ⟨H2.le.refl _, ⟨_, rfl⟩, by rw [Dh, h1]; rfl⟩
 refine zr ?_
 refine AD (BB (by omega)) ?_
 rintro _ n1 hn1 rfl
 cases h2 : allI r (-8) 7
 ·refine zr ?_
  exact ⟨AK (H2.le.refl _) hn1, ⟨_, rfl⟩, by rw [Dh, h1, h2]; rfl⟩
 have w1 := Tf h1
 by_cases h3 : (s.length : Int) = Int.tdiv r.length 4
 ·have d3 : decide ((s.length : Int) = Int.tdiv r.length 4) = true := decide_eq_true h3
  refine C5 w1 d3 ?_
  refine AD (BB (by omega)) ?_
  rintro _ n2 hn2 rfl
  rw [AF] at hn2
  refine zr ?_
  exact ⟨AK (AK (H2.le.refl _) hn1) (by rw [AF]; exact hn2), ⟨_, rfl⟩, by rw [Dh, h1, h2, d3]; rfl⟩
 ·have d3 : decide ((s.length : Int) = Int.tdiv r.length 4) = false := decide_eq_false h3
  refine C5 w1 d3 ?_
  exact ⟨AK (H2.le.refl _) hn1, ⟨_, rfl⟩, by rw [Dh, h1, h2, d3]; rfl⟩
theorem HW {f : AQ} {r : List Int} {n : Int} {g : H2} (hr : r.length ≤ 1048576) : PW Tryz.prog W0 127 [.sl f 1 (ints r), .raw (.int .i64 n)] g (fun y => y = .raw (.bool (DA r n))) := by
 refine PW.scalar ?_
 refine AH [[0, 1], [0, 1]] Tryz.func127 rfl (rs := [.tmp 4]) rfl rfl ?_
 intro wf
 by_cases h1 : (r.length : Int) = n
 ·have d1 : decide ((r.length : Int) = n) = true := decide_eq_true h1
  refine A1 d1 ?_
  refine AD (BN (by omega)) ?_
  rintro _ n1 hn1 rfl
  refine zr ?_
  exact ⟨AK (H2.le.refl _) hn1, ⟨_, rfl⟩, by rw [DA, d1]; rfl⟩
 ·have d1 : decide ((r.length : Int) = n) = false := decide_eq_false h1
  refine A1 d1 ?_
  exact ⟨H2.le.refl _, ⟨_, rfl⟩, by rw [DA, d1]; rfl⟩
theorem FH {f : AQ} {r : List Int} {n : Int} {g : H2} (hr : r.length ≤ 1048576) : PW Tryz.prog W0 104 [.sl f 1 (ints r), .raw (.int .i64 n)] g (fun y => y = .raw (.bool (DA r n))) := by
 refine PW.scalar ?_
 refine AH [[0, 1], [0, 1]] Tryz.func104 rfl (rs := [.tmp 4]) rfl rfl ?_
 intro wf
 by_cases h1 : (r.length : Int) = n
 ·have d1 : decide ((r.length : Int) = n) = true := decide_eq_true h1
  refine A1 d1 ?_
  refine AD (BB (by omega)) ?_
  rintro _ n1 hn1 rfl
  refine zr ?_
  exact ⟨AK (H2.le.refl _) hn1, ⟨_, rfl⟩, by rw [DA, d1]; rfl⟩
 ·have d1 : decide ((r.length : Int) = n) = false := decide_eq_false h1
  refine A1 d1 ?_
  exact ⟨H2.le.refl _, ⟨_, rfl⟩, by rw [DA, d1]; rfl⟩
end Go.Bi
end
section
set_option maxRecDepth 20000
namespace Go.Bi
open Go.Proofs
open Go.Ai (wrap_i64 wrap_u64 wrap_u8 Heap)
variable {W0 : World} {P : Program}
set_option maxHeartbeats 2000000
def Dg (x : Int) : Int := if x < 0 then -x else x
def CK (r s : List Int) : Nat → Int
 | 0 => 0
 | k + 1 => CK r s k + s.getD (k / 4) default * 127 * Dg (r.getD k default)
def G7 (r s : List Int) : Int := if Dh r s = true then CK r s r.length else 0
theorem H3 {r s : List Int} (h : Dh r s = true) : (r.length = 4 ∨ r.length = 8) ∧ r.length = 4 * s.length ∧ (∀ z ∈ r, -8 ≤ z ∧ z ≤ 7) ∧ ∀ z ∈ s, 1 ≤ z ∧ z ≤ 127 := by
 unfold Dh at h
 simp only [Bool.and_eq_true, decide_eq_true_eq, allI, List.all_eq_true, inI] at h
 obtain ⟨h1, h2, h3, h4⟩ := h
 have hw := Fw h1
 have e4 : Int.tdiv (4 : Int) 4 = 1 := by decide
 have e8 : Int.tdiv (8 : Int) 4 = 2 := by decide
 refine ⟨by omega, ?_, fun z hz => h2 z hz, fun z hz => h4 z hz⟩
 rcases hw with hw | hw <;> rw [hw] at h3 <;> omega
theorem Nr {l : List Int} {i : Nat} (h : i < l.length) : l.getD i default ∈ l := by
 rw [List.getD_eq_getElem?_getD, List.getElem?_eq_getElem h]; exact List.getElem_mem h
theorem Lu {r s : List Int} (h : Dh r s = true) {k : Nat} (hk : k < r.length) : (1 ≤ s.getD (k / 4) default ∧ s.getD (k / 4) default ≤ 127) ∧ (-8 ≤ r.getD k default ∧ r.getD k default ≤ 7) ∧ (0 ≤ Dg (r.getD k default) ∧ Dg (r.getD k default) ≤ 8) ∧ 0 ≤ s.getD (k / 4) default * 127 * Dg (r.getD k default) ∧ s.getD (k / 4) default * 127 * Dg (r.getD k default) ≤ 129032 := by
 obtain ⟨hl, hs, hr, hsc⟩ := H3 h
 have h1 := hr _ (Nr hk)
 have h2 := hsc _ (Nr (show k / 4 < s.length by omega))
 have h3 : 0 ≤ Dg (r.getD k default) ∧ Dg (r.getD k default) ≤ 8 := by unfold Dg; split <;> omega
 refine ⟨h2, h1, h3, Int.mul_nonneg (by omega) h3.1, ?_⟩
 have := Int.mul_le_mul (show s.getD (k / 4) default * 127 ≤ 16129 by omega) h3.2 h3.1 (by omega)
 omega
theorem IL {r s : List Int} (h : Dh r s = true) : ∀ {k : Nat}, k ≤ r.length → 0 ≤ CK r s k ∧ CK r s k ≤ 129032 * (k : Int)
 | 0, _ => by simp [CK]
 | k + 1, hk => by
  have h1 := IL h (k := k) (by omega)
  have h2 := (Lu h (show k < r.length by omega)).2.2.2
  rw [CK]
  omega
theorem OY {f f' : AQ} {r s : List Int} {g : H2} (hr : r.length ≤ 1048576) (hs : s.length ≤ 1048576) : PW Tryz.prog W0 177 [.sl f 1 (ints r), .sl f' 1 (ints s)] g (fun y => y = .raw (.int .i64 (G7 r s))) := by
 refine PW.scalar ?_
 refine AH [[0, 1], [0, 1], [], [0, 1], [0, 1, 5], [1, 5, 12, 13, 14], [1, 5, 12, 13, 14], [1, 5, 6, 7, 12, 13, 14], [1, 5, 12, 13, 14], [5]] Tryz.func177 rfl (rs := [.tmp 4]) rfl rfl ?_
 intro wf
 refine zr ?_
 refine AD (Qo hr hs) ?_
 rintro _ n1 hn1 rfl
 cases h1 : Dh r s
 ·refine zr ?_
  exact ⟨AK (H2.le.refl _) hn1, ⟨_, rfl⟩, by rw [G7, h1]; rfl⟩
 refine zr ?_
 have hfa := H3 h1
 refine AJ [1, 12, 13] (fun m e h' => ∃ (i : Nat), h' = g.up n1 ∧ look e 14 .mk = .raw (.int .i64 (i : Nat)) ∧ look e 5 .mk = .raw (.int .i64 (CK r s i)) ∧ m + i = r.length) r.length ?_ ?_
 ·exact ⟨0, rfl, AL, by simp -dsimp -implicitDefEqProofs only [go_sem, sQ1] <;> rfl, by omega⟩
 ·rintro m e h' hks ⟨i, rfl, e14, e5, hm⟩
  simp -dsimp -implicitDefEqProofs only [go_sem, sQ1] at hks
  by_cases h2 : (i : Int) < (r.length : Int)
  ·have h3 : i < r.length := by omega
   obtain ⟨t1, t2, t3, t4, t5⟩ := Lu h1 h3
   have t6 := IL h1 (k := i) (by omega)
   have w1 := BE i (by omega)
   have w2 : IntKind.i64.wrap (Int.tdiv (i : Int) 4) = ((i / 4 : Nat) : Int) := by
    rw [show Int.tdiv (i : Int) 4 = ((i / 4 : Nat) : Int) from rfl, wrap_i64] <;> omega
   have h4 : i / 4 < s.length := by omega
   have w3 : IntKind.i64.wrap (s.getD (i / 4) default * 127) = s.getD (i / 4) default * 127 := by rw [wrap_i64] <;> omega
   have w4 : IntKind.i64.wrap (0 - (r.getD i default)) = -(r.getD i default) := by rw [wrap_i64] <;> omega
   have w7 : Go.Ai.mxI (r.getD i default) (-(r.getD i default)) = Dg (r.getD i default) := by unfold Go.Ai.mxI Dg; split <;> split <;> omega
   have w5 : IntKind.i64.wrap (s.getD (i / 4) default * 127 * Dg (r.getD i default)) = s.getD (i / 4) default * 127 * Dg (r.getD i default) := by rw [wrap_i64] <;> omega
   have w6 : IntKind.i64.wrap (CK r s i + s.getD (i / 4) default * 127 * Dg (r.getD i default)) = CK r s (i + 1) := by rw [CK, wrap_i64] <;> omega
   repeat (first | rw [ko] | rw [kr] | simp -dsimp -implicitDefEqProofs only [go_sem, sQ1, sQ7, hks, e14, e5, h2, h3, h4, w2, w3, w4, w5, w6, w7, w1])
   exact AI (m - 1) (by omega) AL ⟨i + 1, rfl, AL, AL, by omega⟩
  ·obtain rfl : i = r.length := by omega
   refine Cu hks e14 e5 h2 ?_
   exact ⟨AK (H2.le.refl _) hn1, ⟨_, rfl⟩, by rw [G7, h1]; rfl⟩
theorem cy {x : Int} {g : H2} (hx : -1000000 ≤ x ∧ x ≤ 1000000) : A7 Tryz.prog W0 161 [.raw (.int .i64 x)] g (fun v g' => v = .raw (.int .i64 (Dg x)) ∧ g' = g) := by
 refine AH [[0], [0], [0], [0]] Tryz.func161 rfl (rs := [.tmp 2]) rfl rfl ?_
 intro wf
 refine zr ?_
 have w1 : IntKind.i64.wrap (0 - x) = -x := by rw [wrap_i64] <;> omega
 refine AN (fun h1 => ?_) (fun h1 => ?_)
 ·refine A1 w1 ?_
  exact ⟨by rw [Dg, if_pos h1], rfl⟩
 ·refine zr ?_
  exact ⟨by rw [Dg, if_neg h1], rfl⟩
theorem PK {f f' : AQ} {r s : List Int} {g : H2} (hr : r.length ≤ 1048576) (hs : s.length ≤ 1048576) : PW Tryz.prog W0 202 [.sl f 1 (ints r), .sl f' 1 (ints s)] g (fun y => y = .raw (.int .i64 (G7 r s))) := by
 refine PW.scalar ?_
 refine AH [[0, 1], [0, 1], [], [0, 1], [0, 1, 5], [0, 1, 5, 6], [0, 1, 5, 6], [0, 1, 5, 6], [5]] Tryz.func202 rfl (rs := [.tmp 4]) rfl rfl ?_
 intro wf
 refine zr ?_
 refine AD (Lb hr hs) ?_
 rintro _ n1 hn1 rfl
 cases h1 : Dh r s
 ·refine zr ?_
  exact ⟨AK (H2.le.refl _) hn1, ⟨_, rfl⟩, by rw [G7, h1]; rfl⟩
 refine zr ?_
 have hfa := H3 h1
 refine AJ [0, 1] (fun m e h' => ∃ (i : Nat), h' = g.up n1 ∧ look e 6 .mk = .raw (.int .i64 (i : Nat)) ∧ look e 5 .mk = .raw (.int .i64 (CK r s i)) ∧ m + i = r.length) r.length ?_ ?_
 ·exact ⟨0, rfl, AL, by simp -dsimp -implicitDefEqProofs only [go_sem] <;> rfl, by omega⟩
 ·rintro m e h' hks ⟨i, rfl, e6, e5, hm⟩
  simp -dsimp -implicitDefEqProofs only [go_sem, sQ1] at hks
  by_cases h2 : (i : Int) < (r.length : Int)
  ·have h3 : i < r.length := by omega
   obtain ⟨t1, t2, t3, t4, t5⟩ := Lu h1 h3
   have t6 := IL h1 (k := i) (by omega)
   have w1 := BE i (by omega)
   have w2 : IntKind.i64.wrap (Int.tdiv (i : Int) 4) = ((i / 4 : Nat) : Int) := by
    rw [show Int.tdiv (i : Int) 4 = ((i / 4 : Nat) : Int) from rfl, wrap_i64] <;> omega
   have h4 : i / 4 < s.length := by omega
   have w3 : IntKind.i64.wrap (s.getD (i / 4) default * 127) = s.getD (i / 4) default * 127 := by rw [wrap_i64] <;> omega
   have w5 : IntKind.i64.wrap (s.getD (i / 4) default * 127 * Dg (r.getD i default)) = s.getD (i / 4) default * 127 * Dg (r.getD i default) := by rw [wrap_i64] <;> omega
   have w6 : IntKind.i64.wrap (CK r s i + s.getD (i / 4) default * 127 * Dg (r.getD i default)) = CK r s (i + 1) := by rw [CK, wrap_i64] <;> omega
   refine Cu hks e6 e5 h2 ?_
   refine AO [(0, []), (1, []), (2, []), (3, []), (4, []), (5, []), (6, []), (7, []), (8, []), (9, []), (10, []), (11, [5]), (12, []), (13, []), (14, [])] (by kernel_rfl) ?_
   refine Cu h3 h4 w2 w3 ?_
   refine AA (cy (by omega)) ?_
   rintro _ g' ⟨rfl, rfl⟩
   refine DH w5 w6 w1 ?_
   exact AI (m - 1) (by omega) AL ⟨i + 1, rfl, AL, AL, by omega⟩
  ·obtain rfl : i = r.length := by omega
   refine Cu hks e6 e5 h2 ?_
   exact ⟨AK (H2.le.refl _) hn1, ⟨_, rfl⟩, by rw [G7, h1]; rfl⟩
end Go.Bi
end
section
set_option maxRecDepth 20000
namespace Go.Bi
open Go.Proofs
open Go.Ai (wrap_i64 wrap_u64 wrap_u8 Heap)
variable {W0 : World} {P : Program}
set_option maxHeartbeats 4000000
def Gs (m : AR) (i : Nat) : Bool := decide (((m.rows.getD i default).length : Int) = m.width) && Dh (m.rows.getD i default) (m.scales.getD i default)
def C3 (m : AR) : Bool := Bk m.width && (decide ((m.rows.length : Int) ≤ 300) && (decide ((m.scales.length : Int) = m.rows.length) && (inI m.mul 0 65536 && (inI m.shift 0 24 && (List.range m.rows.length).all (Gs m)))))
def ER (l : List (List Int)) : Prop := l.length ≤ 1048576 ∧ ∀ r ∈ l, r.length ≤ 1048576
def DM (m : AR) : Prop := ER m.rows ∧ ER m.scales
theorem Bf {l : List (List Int)} (h : ER l) (i : Nat) : (l.getD i default).length ≤ 1048576 := by
 by_cases hi : i < l.length
 ·refine h.2 _ ?_
  rw [List.getD_eq_getElem?_getD, List.getElem?_eq_getElem hi]; exact List.getElem_mem hi
 ·rw [List.getD_eq_getElem?_getD, List.getElem?_eq_none (by omega)]; show 0 ≤ _; omega
theorem F9 {n : Nat} {p : Nat → Bool} (h : ∀ i, i < n → p i = true) : (List.range n).all p = true := by
 rw [List.all_eq_true]; intro i hi; exact h i (List.mem_range.1 hi)
theorem Ed {n i : Nat} {p : Nat → Bool} (hi : i < n) (h : p i = false) : (List.range n).all p = false := by
 rw [List.all_eq_false]; exact ⟨i, List.mem_range.2 hi, by rw [h]; simp⟩
theorem NA {F : Nat → AQ} {m : AR} {g : H2} (hsm : DM m) : PW Tryz.prog W0 176 [.st (BV F m)] g (fun y => y = .raw (.bool (C3 m))) := by
 obtain ⟨⟨hr1, hr2⟩, hs1, hs2⟩ := id hsm
 refine PW.scalar ?_
 refine AH [[0], [1], [], [1], [1, 37, 38, 39], [1, 37, 38, 39], [1, 3, 4, 37, 38, 39], [], [1, 37, 38, 39], []] Tryz.func176 rfl (rs := [.tmp 2]) rfl rfl ?_
 intro wf
 refine zh ?_
 refine AA Ga ?_
 rintro _ _ ⟨rfl, rfl⟩
 cases h1 : Bk m.width
 ·refine zh ?_
  exact ⟨le_push (H2.le.refl _), ⟨_, rfl⟩, by rw [C3, h1]; rfl⟩
 by_cases h2 : (m.rows.length : Int) > 300
 ·refine DC h2 ?_
  exact ⟨le_push (H2.le.refl _), ⟨_, rfl⟩, by rw [C3, h1, decide_eq_false (show ¬ (m.rows.length : Int) ≤ 300 by omega)]; rfl⟩
 have d2 : decide ((m.rows.length : Int) ≤ 300) = true := decide_eq_true (by omega)
 by_cases h3 : (m.scales.length : Int) = m.rows.length
 rotate_left
 ·have d3 : decide ((m.scales.length : Int) = m.rows.length) = false := decide_eq_false h3
  have e3 : decide (¬ (m.scales.length : Int) = m.rows.length) = true := decide_eq_true h3
  refine LM h2 e3 ?_
  exact ⟨le_push (H2.le.refl _), ⟨_, rfl⟩, by rw [C3, h1, d2, d3]; rfl⟩
 have d3 : decide ((m.scales.length : Int) = m.rows.length) = true := decide_eq_true h3
 have e3 : decide (¬ (m.scales.length : Int) = m.rows.length) = false := decide_eq_false (fun h => h h3)
 refine LM h2 e3 ?_
 refine AA BQ ?_
 rintro _ _ ⟨rfl, rfl⟩
 cases h4 : inI m.mul 0 65536
 ·refine zh ?_
  exact ⟨le_push (H2.le.refl _), ⟨_, rfl⟩, by rw [C3, h1, d2, d3, h4]; rfl⟩
 refine zh ?_
 refine AA BQ ?_
 rintro _ _ ⟨rfl, rfl⟩
 cases h5 : inI m.shift 0 24
 ·refine zh ?_
  exact ⟨le_push (H2.le.refl _), ⟨_, rfl⟩, by rw [C3, h1, d2, d3, h4, h5]; rfl⟩
 refine zh ?_
 have hB : C3 m = (List.range m.rows.length).all (Gs m) := by rw [C3, h1, d2, d3, h4, h5]; rfl
 refine AJ [1, 37, 38] (fun mm e h' => ∃ (i : Nat), g.le h' ∧ hg h' (hn g .mk) .mk = some ⟨5, [.raw (.int .i64 m.width), .sl (F 1) 1 (AE m.rows), .sl (F 2) 1 (AE m.scales), .raw (.int .i64 m.mul), .raw (.int .i64 m.shift)]⟩ ∧ look e 39 .mk = .raw (.int .i64 (i : Nat)) ∧ mm + i = m.rows.length ∧ ∀ j, j < i → Gs m j = true) m.rows.length ?_ ?_
 ·exact ⟨0, le_push (H2.le.refl _), by simp -dsimp -implicitDefEqProofs only [go_sem, Av], AL, by omega, fun j hj => by omega⟩
 ·rintro mm e h' hks ⟨i, hle, row, ei, hm, hpre⟩
  simp -dsimp -implicitDefEqProofs only [go_sem, sQ1] at hks
  by_cases q1 : (i : Int) < (m.rows.length : Int)
  ·have q2 : i < m.rows.length := by omega
   have q3 : i < m.scales.length := by omega
   have w1 := BE i (by omega)
   by_cases q4 : ((m.rows.getD i default).length : Int) = m.width
   ·have d4 : decide (((m.rows.getD i default).length : Int) = m.width) = true := decide_eq_true q4
    have e4 : decide (¬ ((m.rows.getD i default).length : Int) = m.width) = false := decide_eq_false (fun h => h q4)
    repeat (first | rw [ko] | rw [kr] | simp -dsimp -implicitDefEqProofs only [go_sem, sQ1, hks, ei, q1, q2, q3, e4, row])
    refine AD (Qo (Bf hsm.1 i) (Bf hsm.2 i)) ?_
    rintro _ n3 hn3 rfl
    cases q5 : Dh (m.rows.getD i default) (m.scales.getD i default)
    ·refine zr ?_
     exact ⟨AK hle hn3, ⟨_, rfl⟩, by rw [hB, Ed q2 (by rw [Gs, d4, q5]; rfl)]⟩
    ·refine A1 w1 ?_
     refine AI (mm - 1) (by omega) AL ⟨i + 1, AK hle hn3, by simp -dsimp -implicitDefEqProofs only [go_sem, row], AL, by omega, fun j hj => ?_⟩
     by_cases hji : j = i
     ·subst hji; rw [Gs, d4, q5]; rfl
     ·exact hpre j (by omega)
   ·have d4 : decide (((m.rows.getD i default).length : Int) = m.width) = false := decide_eq_false q4
    have e4 : decide (¬ ((m.rows.getD i default).length : Int) = m.width) = true := decide_eq_true q4
    repeat (first | rw [ko] | rw [kr] | simp -dsimp -implicitDefEqProofs only [go_sem, sQ1, hks, ei, q1, q2, e4, row])
    exact ⟨hle, ⟨_, rfl⟩, by rw [hB, Ed q2 (by rw [Gs, d4]; rfl)]⟩
  ·refine DH hks ei q1 ?_
   exact ⟨hle, ⟨_, rfl⟩, by rw [hB, F9 fun j hj => hpre j (by omega)]⟩
theorem IH {F : Nat → AQ} {m : AR} {g : H2} (hsm : DM m) : PW Tryz.prog W0 152 [.st (BV F m)] g (fun y => y = .raw (.bool (C3 m))) := by
 obtain ⟨⟨hr1, hr2⟩, hs1, hs2⟩ := id hsm
 refine PW.scalar ?_
 refine AH [[0], [1], [], [1], [1, 3], [1, 3], [1, 3], [], []] Tryz.func152 rfl (rs := [.tmp 2]) rfl rfl ?_
 intro wf
 refine zh ?_
 refine AA EE ?_
 rintro _ _ ⟨rfl, rfl⟩
 cases h1 : Bk m.width
 ·refine zh ?_
  exact ⟨le_push (H2.le.refl _), ⟨_, rfl⟩, by rw [C3, h1]; rfl⟩
 by_cases h2 : (m.rows.length : Int) > 300
 ·refine DC h2 ?_
  exact ⟨le_push (H2.le.refl _), ⟨_, rfl⟩, by rw [C3, h1, decide_eq_false (show ¬ (m.rows.length : Int) ≤ 300 by omega)]; rfl⟩
 have d2 : decide ((m.rows.length : Int) ≤ 300) = true := decide_eq_true (by omega)
 by_cases h3 : (m.scales.length : Int) = m.rows.length
 rotate_left
 ·have d3 : decide ((m.scales.length : Int) = m.rows.length) = false := decide_eq_false h3
  have e3 : decide (¬ (m.scales.length : Int) = m.rows.length) = true := decide_eq_true h3
  refine LM h2 e3 ?_
  exact ⟨le_push (H2.le.refl _), ⟨_, rfl⟩, by rw [C3, h1, d2, d3]; rfl⟩
 have d3 : decide ((m.scales.length : Int) = m.rows.length) = true := decide_eq_true h3
 have e3 : decide (¬ (m.scales.length : Int) = m.rows.length) = false := decide_eq_false (fun h => h h3)
 refine LM h2 e3 ?_
 refine AA Ab ?_
 rintro _ _ ⟨rfl, rfl⟩
 cases h4 : inI m.mul 0 65536
 ·refine zh ?_
  exact ⟨le_push (H2.le.refl _), ⟨_, rfl⟩, by rw [C3, h1, d2, d3, h4]; rfl⟩
 refine zh ?_
 refine AA Ab ?_
 rintro _ _ ⟨rfl, rfl⟩
 cases h5 : inI m.shift 0 24
 ·refine zh ?_
  exact ⟨le_push (H2.le.refl _), ⟨_, rfl⟩, by rw [C3, h1, d2, d3, h4, h5]; rfl⟩
 refine zh ?_
 have hB : C3 m = (List.range m.rows.length).all (Gs m) := by rw [C3, h1, d2, d3, h4, h5]; rfl
 refine AJ [1] (fun mm e h' => ∃ (i : Nat), g.le h' ∧ hg h' (hn g .mk) .mk = some ⟨5, [.raw (.int .i64 m.width), .sl (F 1) 1 (AE m.rows), .sl (F 2) 1 (AE m.scales), .raw (.int .i64 m.mul), .raw (.int .i64 m.shift)]⟩ ∧ look e 3 .mk = .raw (.int .i64 (i : Nat)) ∧ mm + i = m.rows.length ∧ ∀ j, j < i → Gs m j = true) m.rows.length ?_ ?_
 ·exact ⟨0, le_push (H2.le.refl _), by simp -dsimp -implicitDefEqProofs only [go_sem, Av], AL, by omega, fun j hj => by omega⟩
 ·rintro mm e h' hks ⟨i, hle, row, ei, hm, hpre⟩
  simp -dsimp -implicitDefEqProofs only [go_sem] at hks
  by_cases q1 : (i : Int) < (m.rows.length : Int)
  ·have q2 : i < m.rows.length := by omega
   have q3 : i < m.scales.length := by omega
   have w1 := BE i (by omega)
   by_cases q4 : ((m.rows.getD i default).length : Int) = m.width
   ·have d4 : decide (((m.rows.getD i default).length : Int) = m.width) = true := decide_eq_true q4
    have e4 : decide (¬ ((m.rows.getD i default).length : Int) = m.width) = false := decide_eq_false (fun h => h q4)
    repeat (first | rw [ko] | rw [kr] | simp -dsimp -implicitDefEqProofs only [go_sem, sQ1, hks, ei, q1, row])
    refine AO [(0, []), (1, []), (2, []), (3, []), (4, []), (5, []), (6, []), (7, []), (8, []), (9, []), (10, []), (11, []), (12, []), (13, []), (14, []), (15, []), (16, []), (17, []), (18, []), (19, []), (20, []), (21, []), (22, [])] (by kernel_rfl) ?_
    repeat (first | rw [ko] | rw [kr] | simp -dsimp -implicitDefEqProofs only [go_sem, sQ1, q2, q3, e4, row])
    refine AD (Lb (Bf hsm.1 i) (Bf hsm.2 i)) ?_
    rintro _ n3 hn3 rfl
    cases q5 : Dh (m.rows.getD i default) (m.scales.getD i default)
    ·refine zr ?_
     exact ⟨AK hle hn3, ⟨_, rfl⟩, by rw [hB, Ed q2 (by rw [Gs, d4, q5]; rfl)]⟩
    ·refine A1 w1 ?_
     refine AI (mm - 1) (by omega) AL ⟨i + 1, AK hle hn3, by simp -dsimp -implicitDefEqProofs only [go_sem, row], AL, by omega, fun j hj => ?_⟩
     by_cases hji : j = i
     ·subst hji; rw [Gs, d4, q5]; rfl
     ·exact hpre j (by omega)
   ·have d4 : decide (((m.rows.getD i default).length : Int) = m.width) = false := decide_eq_false q4
    have e4 : decide (¬ ((m.rows.getD i default).length : Int) = m.width) = true := decide_eq_true q4
    repeat (first | rw [ko] | rw [kr] | simp -dsimp -implicitDefEqProofs only [go_sem, sQ1, hks, ei, q1, row])
    refine AO [(0, []), (1, []), (2, []), (3, []), (4, []), (5, []), (6, []), (7, []), (8, []), (9, []), (10, []), (11, []), (12, []), (13, []), (14, []), (15, []), (16, []), (17, []), (18, []), (19, []), (20, []), (21, []), (22, [])] (by kernel_rfl) ?_
    repeat (first | rw [ko] | rw [kr] | simp -dsimp -implicitDefEqProofs only [go_sem, sQ1, q2, e4, row])
    exact ⟨hle, ⟨_, rfl⟩, by rw [hB, Ed q2 (by rw [Gs, d4]; rfl)]⟩
  ·repeat (first | rw [ko] | rw [kr] | simp -dsimp -implicitDefEqProofs only [go_sem, sQ1, hks, ei, q1, row])
   exact ⟨hle, ⟨_, rfl⟩, by rw [hB, F9 fun j hj => hpre j (by omega)]⟩
end Go.Bi
end
section
set_option maxRecDepth 20000
namespace Go.Bi
open Go.Proofs
open Go.Ai (wrap_i64 wrap_u64 wrap_u8 Heap)
variable {W0 : World} {P : Program}
set_option maxHeartbeats 4000000
def FK (m : AR) (i : Nat) : Int := G7 (m.rows.getD i default) (m.scales.getD i default)
def BD (m : AR) (w n : Int) : Bool := C3 m && (decide (m.width = w) && (decide ((m.rows.length : Int) = n) && (List.range m.rows.length).all fun i => decide (FK m i ≤ 600000)))
def M2 (m : AR) : Nat → Int
 | 0 => 0
 | k + 1 => if M2 m k < FK m k then FK m k else M2 m k
theorem OU {m : AR} : ∀ {k : Nat}, (M2 m k ≤ 600000 ↔ ∀ i, i < k → FK m i ≤ 600000)
 | 0 => ⟨fun _ i hi => by omega, fun _ => by show (0 : Int) ≤ _; omega⟩
 | k + 1 => by
  have ih := OU (m := m) (k := k)
  rw [M2]
  constructor
  ·intro h i hi
   by_cases hik : i = k
   ·subst hik; split at h <;> omega
   ·refine ih.1 ?_ i (by omega)
    split at h <;> omega
  ·intro h
   have h1 := ih.2 fun i hi => h i (by omega)
   have h2 := h k (by omega)
   split <;> omega
theorem Ts {m : AR} (h : C3 m = true) : m.scales.length = m.rows.length := by
 unfold C3 at h
 simp only [Bool.and_eq_true, decide_eq_true_eq] at h
 omega
theorem Dx {F : Nat → AQ} {m : AR} {w n : Int} {g : H2} (hsm : DM m) : PW Tryz.prog W0 128 [.st (BV F m), .raw (.int .i64 w), .raw (.int .i64 n)] g (fun y => y = .raw (.bool (BD m w n))) := by
 obtain ⟨⟨hr1, hr2⟩, hs1, hs2⟩ := id hsm
 refine PW.scalar ?_
 refine AH [[0, 1, 2], [1, 2, 3], [], [3], [3, 26, 27, 28], [3, 26, 27, 28], [3, 7, 8, 26, 27, 28], [], [3, 26, 27, 28], []] Tryz.func128 rfl (rs := [.tmp 6]) rfl rfl ?_
 intro wf
 refine zh ?_
 refine AD (NA (F := F) hsm) ?_
 rintro _ n1 hn1 rfl
 rw [AB] at hn1
 have L1 : ∀ k : OB, g.le ((g.push k).up n1) := fun k => AK (le_push (H2.le.refl _)) (by rw [AB]; exact hn1)
 cases h1 : C3 m
 ·refine zh ?_
  exact ⟨L1 _, ⟨_, rfl⟩, by rw [BD, h1]; rfl⟩
 have hln := Ts h1
 by_cases h2 : m.width = w
 rotate_left
 ·have d2 : decide (m.width = w) = false := decide_eq_false h2
  have e2 : decide (¬ m.width = w) = true := decide_eq_true h2
  refine DC e2 ?_
  exact ⟨L1 _, ⟨_, rfl⟩, by rw [BD, h1, d2]; rfl⟩
 have d2 : decide (m.width = w) = true := decide_eq_true h2
 have e2 : decide (¬ m.width = w) = false := decide_eq_false (fun h => h h2)
 by_cases h3 : (m.rows.length : Int) = n
 rotate_left
 ·have d3 : decide ((m.rows.length : Int) = n) = false := decide_eq_false h3
  have e3 : decide (¬ (m.rows.length : Int) = n) = true := decide_eq_true h3
  refine LM e2 e3 ?_
  exact ⟨L1 _, ⟨_, rfl⟩, by rw [BD, h1, d2, d3]; rfl⟩
 have d3 : decide ((m.rows.length : Int) = n) = true := decide_eq_true h3
 have e3 : decide (¬ (m.rows.length : Int) = n) = false := decide_eq_false (fun h => h h3)
 have hB : BD m w n = (List.range m.rows.length).all fun i => decide (FK m i ≤ 600000) := by rw [BD, h1, d2, d3]; rfl
 refine LM e2 e3 ?_
 refine AJ [3, 26, 27] (fun mm e h' => ∃ (i : Nat), g.le h' ∧ hg h' (hn g .mk) .mk = some ⟨5, [.raw (.int .i64 m.width), .sl (F 1) 1 (AE m.rows), .sl (F 2) 1 (AE m.scales), .raw (.int .i64 m.mul), .raw (.int .i64 m.shift)]⟩ ∧ look e 28 .mk = .raw (.int .i64 (i : Nat)) ∧ mm + i = m.rows.length ∧ ∀ j, j < i → decide (FK m j ≤ 600000) = true) m.rows.length ?_ ?_
 ·exact ⟨0, L1 _, by simp -dsimp -implicitDefEqProofs only [go_sem, Av], AL, by omega, fun j hj => by omega⟩
 ·rintro mm e h' hks ⟨i, hle, row, ei, hm, hpre⟩
  simp -dsimp -implicitDefEqProofs only [go_sem, sQ1] at hks
  by_cases q1 : (i : Int) < (m.rows.length : Int)
  ·have q2 : i < m.rows.length := by omega
   have q3 : i < m.scales.length := by omega
   have w1 := BE i (by omega)
   repeat (first | rw [ko] | rw [kr] | simp -dsimp -implicitDefEqProofs only [go_sem, sQ1, hks, ei, q1, q2, q3, row])
   refine AD (OY (Bf hsm.1 i) (Bf hsm.2 i)) ?_
   rintro _ n3 hn3 rfl
   refine zr ?_
   refine AN (fun q5 => ?_) (fun q5 => ?_)
   ·refine zr ?_
    exact ⟨AK hle hn3, ⟨_, rfl⟩, by rw [hB, Ed q2 (decide_eq_false (by unfold FK; omega))]⟩
   ·refine A1 w1 ?_
    refine AI (mm - 1) (by omega) AL ⟨i + 1, AK hle hn3, by simp -dsimp -implicitDefEqProofs only [go_sem, row], AL, by omega, fun j hj => ?_⟩
    by_cases hji : j = i
    ·subst hji; exact decide_eq_true (by unfold FK; omega)
    ·exact hpre j (by omega)
  ·refine DH hks ei q1 ?_
   exact ⟨hle, ⟨_, rfl⟩, by rw [hB, F9 fun j hj => hpre j (by omega)]⟩
theorem Pt {F : Nat → AQ} {m : AR} {g : H2} (hsm : DM m) (hln : m.scales.length = m.rows.length) : PW Tryz.prog W0 153 [.st (BV F m)] g (fun y => y = .raw (.int .i64 (M2 m m.rows.length))) := by
 obtain ⟨⟨hr1, hr2⟩, hs1, hs2⟩ := id hsm
 refine PW.scalar ?_
 refine AH [[0], [1], [1, 3], [1, 3, 4], [1, 3, 4], [1, 3, 4], [1, 3, 4, 5], [1, 4, 5], [3]] Tryz.func153 rfl (rs := [.tmp 2]) rfl rfl ?_
 intro wf
 refine zh ?_
 refine AJ [1] (fun mm e h' => ∃ (i : Nat), g.le h' ∧ hg h' (hn g .mk) .mk = some ⟨5, [.raw (.int .i64 m.width), .sl (F 1) 1 (AE m.rows), .sl (F 2) 1 (AE m.scales), .raw (.int .i64 m.mul), .raw (.int .i64 m.shift)]⟩ ∧ look e 4 .mk = .raw (.int .i64 (i : Nat)) ∧ look e 3 .mk = .raw (.int .i64 (M2 m i)) ∧ mm + i = m.rows.length) m.rows.length ?_ ?_
 ·exact ⟨0, le_push (H2.le.refl _), by simp -dsimp -implicitDefEqProofs only [go_sem, Av], AL, by simp -dsimp -implicitDefEqProofs only [go_sem] <;> rfl, by omega⟩
 ·rintro mm e h' hks ⟨i, hle, row, ei, e3, hm⟩
  simp -dsimp -implicitDefEqProofs only [go_sem] at hks
  by_cases q1 : (i : Int) < (m.rows.length : Int)
  ·have q2 : i < m.rows.length := by omega
   have q3 : i < m.scales.length := by omega
   have w1 := BE i (by omega)
   repeat (first | rw [ko] | rw [kr] | simp -dsimp -implicitDefEqProofs only [go_sem, sQ1, hks, ei, e3, q1, row])
   refine AO [(0, []), (1, []), (2, []), (3, []), (4, []), (5, []), (6, []), (7, []), (8, []), (9, []), (10, []), (11, [])] (by kernel_rfl) ?_
   repeat (first | rw [ko] | rw [kr] | simp -dsimp -implicitDefEqProofs only [go_sem, sQ1, q2, q3, row])
   refine AD (PK (Bf hsm.1 i) (Bf hsm.2 i)) ?_
   rintro _ n3 hn3 rfl
   refine zr ?_
   have hT : M2 m (i + 1) = if M2 m i < FK m i then FK m i else M2 m i := rfl
   unfold FK at hT
   refine AN (fun q5 => ?_) (fun q5 => ?_)
   ·rw [if_pos (by omega)] at hT
    refine A1 w1 ?_
    exact AI (mm - 1) (by omega) AL ⟨i + 1, AK hle hn3, by simp -dsimp -implicitDefEqProofs only [go_sem, row], AL, by simp -dsimp -implicitDefEqProofs only [go_sem, sQ1, hT], by omega⟩
   ·rw [if_neg (by omega)] at hT
    refine A1 w1 ?_
    exact AI (mm - 1) (by omega) AL ⟨i + 1, AK hle hn3, by simp -dsimp -implicitDefEqProofs only [go_sem, row], AL, by simp -dsimp -implicitDefEqProofs only [go_sem, sQ1, hT], by omega⟩
  ·obtain rfl : i = m.rows.length := by omega
   repeat (first | rw [ko] | rw [kr] | simp -dsimp -implicitDefEqProofs only [go_sem, sQ1, hks, ei, e3, q1, row])
   exact ⟨hle, ⟨_, rfl⟩, rfl⟩
theorem B5 {F : Nat → AQ} {m : AR} {w n : Int} {g : H2} (hsm : DM m) : PW Tryz.prog W0 105 [.st (BV F m), .raw (.int .i64 w), .raw (.int .i64 n)] g (fun y => y = .raw (.bool (BD m w n))) := by
 refine PW.scalar ?_
 refine AH [[0, 1, 2], [1, 2, 3]] Tryz.func105 rfl (rs := [.tmp 6]) rfl rfl ?_
 intro wf
 refine zh ?_
 refine AD (IH (F := F) hsm) ?_
 rintro _ n1 hn1 rfl
 rw [AB] at hn1
 have L1 : ∀ k : OB, g.le ((g.push k).up n1) := fun k => AK (le_push (H2.le.refl _)) (by rw [AB]; exact hn1)
 cases h1 : C3 m
 ·refine zh ?_
  exact ⟨L1 _, ⟨_, rfl⟩, by rw [BD, h1]; rfl⟩
 have hln := Ts h1
 by_cases h2 : m.width = w
 rotate_left
 ·have d2 : decide (m.width = w) = false := decide_eq_false h2
  refine DC d2 ?_
  exact ⟨L1 _, ⟨_, rfl⟩, by rw [BD, h1, d2]; rfl⟩
 have d2 : decide (m.width = w) = true := decide_eq_true h2
 by_cases h3 : (m.rows.length : Int) = n
 rotate_left
 ·have d3 : decide ((m.rows.length : Int) = n) = false := decide_eq_false h3
  refine LM d2 d3 ?_
  exact ⟨L1 _, ⟨_, rfl⟩, by rw [BD, h1, d2, d3]; rfl⟩
 have d3 : decide ((m.rows.length : Int) = n) = true := decide_eq_true h3
 have hB : BD m w n = (List.range m.rows.length).all fun i => decide (FK m i ≤ 600000) := by rw [BD, h1, d2, d3]; rfl
 refine LM d2 d3 ?_
 refine AD (Pt (F := F) hsm hln) ?_
 rintro _ n2 hn2 rfl
 simp only [AF] at hn2
 refine zh ?_
 refine ⟨AK (L1 _) (by rw [AF]; exact hn2), ⟨_, rfl⟩, ?_⟩
 rw [hB]
 by_cases h4 : M2 m m.rows.length ≤ 600000
 ·rw [decide_eq_true h4, F9 fun i hi => decide_eq_true (OU.1 h4 i hi)]
 ·rw [decide_eq_false h4]
  cases hA : ((List.range m.rows.length).all fun i => decide (FK m i ≤ 600000))
  ·rfl
  ·rw [List.all_eq_true] at hA
   exact absurd (OU.2 fun i hi => by simpa using hA i (List.mem_range.2 hi)) h4
end Go.Bi
end
section
set_option maxRecDepth 20000
namespace Go.Bi
open Go.Proofs
open Go.Ai (wrap_i64 wrap_u64 wrap_u8 Heap)
variable {W0 : World} {P : Program}
set_option maxHeartbeats 4000000
theorem Vm {F : FuncId} {p : List Int → Bool} {caps : List Value} {f : AQ} {ss : List (List Int)} {h : H2} (hn0 : ss.length ≤ 1048576)
  (hf : ∀ (i : Nat), i < ss.length → ∀ (f' : AQ) (h' : H2), h.le h' → PW Tryz.prog W0 F ([.sl f' 1 (ints (ss.getD i default))] ++ caps.map .raw) h' (fun v => v = .raw (.bool (p (ss.getD i default))))) :
  PW Tryz.prog W0 172 [.sl f 1 (AE ss), .raw (.func (.func F) #[] caps.toArray)] h (fun v => ∃ k : Int, v = .raw (.int .i64 k) ∧ decide (0 ≤ k) = ss.any p) := by
 refine PW.scalar ((?_ : A7 _ _ _ _ _ fun v g' => h.le g' ∧ ∃ k : Int, v = .raw (.int .i64 k) ∧ decide (0 ≤ k) = ss.any p).mono fun v g' ⟨h1, k, h2, h3⟩ => ⟨h1, ⟨_, h2⟩, k, h2, h3⟩)
 refine AH [[0, 1], [0, 1], [0, 1, 7, 8], [0, 1, 7, 8], [0, 1, 5, 7, 8], [5], [0, 1, 7, 8], []] Tryz.func172 rfl (rs := [.tmp 4]) rfl rfl ?_
 intro wf
 refine zr ?_
 refine AJ [0, 1, 7] (fun m e h' => h.le h' ∧ ∃ k : Nat, look e 8 .mk = .raw (.int .i64 k) ∧ m + k = ss.length ∧ ∀ j : Nat, j < k → p (ss.getD j default) = false) ss.length ?_ ?_
 ·exact ⟨H2.le.refl _, 0, AL, by omega, fun j hj => by omega⟩
 ·rintro m e h' hks ⟨hle, k, e8, hk, hpre⟩
  simp -dsimp -implicitDefEqProofs only [go_sem, sQ1] at hks
  refine C5 hks e8 ?_
  refine AN (fun h2 => ?_) (fun h2 => ?_)
  ·have h3 : k < ss.length := by omega
   refine A1 h3 ?_
   refine AD (hf k h3 _ _ hle) ?_
   rintro _ n hn1 rfl
   refine zr ?_
   refine EA (fun h4 => ?_) (fun h4 => ?_)
   ·refine zr ?_
    exact ⟨AK hle hn1, _, rfl, by rw [Dc h3 h4]; simp⟩
   ·repeat (first | rw [ko] | rw [kr] | simp -dsimp -implicitDefEqProofs only [go_sem, sQ1, AU h3 (by omega)])
    refine AI (m - 1) (by omega) AL ⟨AK hle hn1, k + 1, AL, by omega, fun j hj => ?_⟩
    by_cases hji : j = k
    ·subst hji; exact h4
    ·exact hpre j (by omega)
  ·refine zr ?_
   exact ⟨hle, _, rfl, by rw [any_none fun j hj => hpre j (by omega)]; rfl⟩
theorem GN {F : FuncId} {p : List Int → Bool} {caps : List Value} {f : AQ} {ss : List (List Int)} {h : H2} (hn0 : ss.length ≤ 1048576)
  (hf : ∀ (i : Nat), i < ss.length → ∀ (f' : AQ) (h' : H2), h.le h' → PW Tryz.prog W0 F ([.sl f' 1 (ints (ss.getD i default))] ++ caps.map .raw) h' (fun v => v = .raw (.bool (p (ss.getD i default))))) :
  PW Tryz.prog W0 121 [.sl f 1 (AE ss), .raw (.func (.func F) #[] caps.toArray)] h (fun v => v = .raw (.bool (ss.any p))) := by
 refine PW.scalar ?_
 refine AH [[0, 1], [0, 1]] Tryz.func121 rfl (rs := [.tmp 4]) rfl rfl ?_
 intro wf
 refine zr ?_
 refine AD (Vm hn0 hf) ?_
 rintro _ n hn1 ⟨k, rfl, hk⟩
 repeat (first | rw [ko] | rw [kr] | simp -dsimp -implicitDefEqProofs only [go_sem, hk])
 exact ⟨AK (H2.le.refl _) hn1, ⟨_, rfl⟩, rfl⟩
def Dj (n : Int) (l : List Int) : Bool := decide ((l.length : Int) = n) && allI l (-128) 128
def Ci (l : List (List Int)) (c n : Int) : Bool := decide ((l.length : Int) = c) && !(l.any fun x => !Dj n x)
def Dd (t : CD) (c n : Int) : Bool := inI c 4 24 && (inI n 1 4 && (Ci t.cos c n && Ci t.sin c n))
theorem Yc {f : AQ} {l : List Int} {b z : Nat} {n : Int} {h : H2} (hb : hg h b .mk = some ⟨z, [.raw (.int .i64 n)]⟩) (hl : l.length ≤ 1048576) : PW Tryz.prog W0 216 [.sl f 1 (ints l), .raw (.pointer (some ⟨b, 0, none⟩))] h (fun y => y = .raw (.bool (!Dj n l))) := by
 refine PW.scalar ?_
 refine AH [[0, 1], [0, 1]] Tryz.func216 rfl (rs := [.tmp 3]) rfl rfl ?_
 intro wf
 by_cases h1 : (l.length : Int) = n
 ·have d1 : decide ((l.length : Int) = n) = true := decide_eq_true h1
  have e1 : decide (¬ (l.length : Int) = n) = false := decide_eq_false (fun h => h h1)
  refine C5 hb e1 ?_
  refine AD (BN (by omega)) ?_
  rintro _ n1 hn1 rfl
  refine zr ?_
  exact ⟨AK (H2.le.refl _) hn1, ⟨_, rfl⟩, by rw [Dj, d1]; rfl⟩
 ·have d1 : decide ((l.length : Int) = n) = false := decide_eq_false h1
  have e1 : decide (¬ (l.length : Int) = n) = true := decide_eq_true h1
  refine C5 hb e1 ?_
  exact ⟨H2.le.refl _, ⟨_, rfl⟩, by rw [Dj, d1]; rfl⟩
theorem JD {f : AQ} {l : List (List Int)} {c n : Int} {g : H2} (hl : ER l) : PW Tryz.prog W0 178 [.sl f 1 (AE l), .raw (.int .i64 c), .raw (.int .i64 n)] g (fun y => y = .raw (.bool (Ci l c n))) := by
 refine PW.scalar ?_
 refine AH [[0, 1, 2], [0, 1, 5]] Tryz.func178 rfl (rs := [.tmp 6]) rfl rfl ?_
 intro wf
 by_cases h1 : (l.length : Int) = c
 ·have d1 : decide ((l.length : Int) = c) = true := decide_eq_true h1
  refine DC d1 ?_
  refine AD (GN (F := 216) (p := fun x => !Dj n x) (caps := [.pointer (some ⟨hn g .mk, 0, none⟩)]) hl.1 fun i hi f' h' hle => ?_) ?_
  ·exact Yc (z := 1) ((hle.2 (hn g .mk) (by rw [AB]; omega)).trans (by simp -dsimp -implicitDefEqProofs only [go_sem, Av])) (Bf hl i)
  rintro _ n1 hn1 rfl
  rw [AB] at hn1
  refine zr ?_
  exact ⟨AK (le_push (H2.le.refl _)) (by rw [AB]; exact hn1), ⟨_, rfl⟩, by rw [Ci, d1]; rfl⟩
 ·have d1 : decide ((l.length : Int) = c) = false := decide_eq_false h1
  refine DC d1 ?_
  exact ⟨le_push (H2.le.refl _), ⟨_, rfl⟩, by rw [Ci, d1]; rfl⟩
theorem OW {F : Nat → AQ} {t : CD} {c n : Int} {g : H2} (h1 : ER t.cos) (h2 : ER t.sin) : PW Tryz.prog W0 129 [.st (Gj F t), .raw (.int .i64 c), .raw (.int .i64 n)] g (fun y => y = .raw (.bool (Dd t c n))) := by
 refine PW.scalar ?_
 refine AH [[0, 1, 2], [1, 2, 3]] Tryz.func129 rfl (rs := [.tmp 6]) rfl rfl ?_
 intro wf
 refine zh ?_
 refine AA BQ ?_
 rintro _ _ ⟨rfl, rfl⟩
 cases q1 : inI c 4 24
 ·refine zh ?_
  exact ⟨le_push (H2.le.refl _), ⟨_, rfl⟩, by rw [Dd, q1]; rfl⟩
 refine zh ?_
 refine AA BQ ?_
 rintro _ _ ⟨rfl, rfl⟩
 cases q2 : inI n 1 4
 ·refine zh ?_
  exact ⟨le_push (H2.le.refl _), ⟨_, rfl⟩, by rw [Dd, q1, q2]; rfl⟩
 refine zh ?_
 refine AD (JD h1) ?_
 rintro _ n1 hn1 rfl
 rw [AB] at hn1
 cases q3 : Ci t.cos c n
 ·refine zh ?_
  exact ⟨AK (le_push (H2.le.refl _)) (by rw [AB]; exact hn1), ⟨_, rfl⟩, by rw [Dd, q1, q2, q3]; rfl⟩
 refine zh ?_
 refine AD (JD h2) ?_
 rintro _ n2 hn2 rfl
 rw [AF] at hn2
 refine zh ?_
 exact ⟨AK (AK (le_push (H2.le.refl _)) (by rw [AB]; exact hn1)) (by rw [AF]; exact hn2), ⟨_, rfl⟩, by rw [Dd, q1, q2, q3]; rfl⟩
end Go.Bi
end
section
set_option maxRecDepth 20000
namespace Go.Bi
open Go.Proofs
open Go.Ai (wrap_i64 wrap_u64 wrap_u8 Heap)
variable {W0 : World} {P : Program}
set_option maxHeartbeats 4000000
theorem Gh {l : List (List Int)} {c n : Int} {i : Nat} (hi : i < l.length) (h : Dj n (l.getD i default) = false) : Ci l c n = false := by
 unfold Ci
 rw [Dc (p := fun x => !Dj n x) hi (by simp only [h]; rfl)]; simp
theorem Ke {l : List (List Int)} {c n : Int} (hc : (l.length : Int) = c) (h : ∀ i, i < l.length → Dj n (l.getD i default) = true) : Ci l c n = true := by
 unfold Ci
 rw [any_none (p := fun x => !Dj n x) fun j hj => by simp only [h j hj]; rfl, decide_eq_true hc]; rfl
theorem JT {F : Nat → AQ} {t : CD} {c n : Int} {g : H2} (s1 : ER t.cos) (s2 : ER t.sin) : PW Tryz.prog W0 106 [.st (Gj F t), .raw (.int .i64 c), .raw (.int .i64 n)] g (fun y => y = .raw (.bool (Dd t c n))) := by
 obtain ⟨s11, s12⟩ := id s1
 obtain ⟨s21, s22⟩ := id s2
 refine PW.scalar ?_
 refine AH [[0, 1, 2], [1, 2, 3], [], [1, 2, 3], [1, 2, 3, 7], [1, 2, 3, 7], [1, 2, 3, 7], [], []] Tryz.func106 rfl (rs := [.tmp 6]) rfl rfl ?_
 intro wf
 refine zh ?_
 refine AA Ab ?_
 rintro _ _ ⟨rfl, rfl⟩
 cases q1 : inI c 4 24
 ·refine zh ?_
  exact ⟨le_push (H2.le.refl _), ⟨_, rfl⟩, by rw [Dd, q1]; rfl⟩
 refine zh ?_
 refine AA Ab ?_
 rintro _ _ ⟨rfl, rfl⟩
 cases q2 : inI n 1 4
 ·refine zh ?_
  exact ⟨le_push (H2.le.refl _), ⟨_, rfl⟩, by rw [Dd, q1, q2]; rfl⟩
 have hB : Dd t c n = (Ci t.cos c n && Ci t.sin c n) := by rw [Dd, q1, q2]; rfl
 by_cases h3 : (t.cos.length : Int) = c
 rotate_left
 ·have e3 : decide (¬ (t.cos.length : Int) = c) = true := decide_eq_true h3
  refine DC e3 ?_
  exact ⟨le_push (H2.le.refl _), ⟨_, rfl⟩, by rw [hB, Ci, decide_eq_false h3]; rfl⟩
 have e3 : decide (¬ (t.cos.length : Int) = c) = false := decide_eq_false (fun h => h h3)
 by_cases h4 : (t.sin.length : Int) = c
 rotate_left
 ·have e4 : decide (¬ (t.sin.length : Int) = c) = true := decide_eq_true h4
  refine LM e3 e4 ?_
  refine ⟨le_push (H2.le.refl _), ⟨_, rfl⟩, ?_⟩
  rw [hB, show Ci t.sin c n = false by rw [Ci, decide_eq_false h4]; rfl, Bool.and_false]
 have e4 : decide (¬ (t.sin.length : Int) = c) = false := decide_eq_false (fun h => h h4)
 refine LM e3 e4 ?_
 refine AJ [1, 2, 3] (fun mm e h' => ∃ (i : Nat), g.le h' ∧ hg h' (hn g .mk) .mk = some ⟨2, [.sl (F 0) 1 (AE t.cos), .sl (F 1) 1 (AE t.sin)]⟩ ∧ look e 7 .mk = .raw (.int .i64 (i : Nat)) ∧ mm + i = t.cos.length ∧ ∀ j, j < i → Dj n (t.cos.getD j default) = true ∧ Dj n (t.sin.getD j default) = true) t.cos.length ?_ ?_
 ·exact ⟨0, le_push (H2.le.refl _), by simp -dsimp -implicitDefEqProofs only [go_sem, Av], AL, by omega, fun j hj => by omega⟩
 ·rintro mm e h' hks ⟨i, hle, row, ei, hm, hpre⟩
  simp -dsimp -implicitDefEqProofs only [go_sem, sQ1] at hks
  by_cases q5 : (i : Int) < c
  ·have q6 : i < t.cos.length := by omega
   have q7 : i < t.sin.length := by omega
   have w1 := BE i (by omega)
   by_cases p1 : ((t.cos.getD i default).length : Int) = n
   rotate_left
   ·have n1 : decide (¬ ((t.cos.getD i default).length : Int) = n) = true := decide_eq_true p1
    repeat (first | rw [ko] | rw [kr] | simp -dsimp -implicitDefEqProofs only [go_sem, sQ1, hks, ei, q5, q6, n1, row])
    exact ⟨hle, ⟨_, rfl⟩, by rw [hB, Gh q6 (by rw [Dj, decide_eq_false p1]; rfl)]; rfl⟩
   have n1 : decide (¬ ((t.cos.getD i default).length : Int) = n) = false := decide_eq_false (fun h => h p1)
   by_cases p2 : ((t.sin.getD i default).length : Int) = n
   rotate_left
   ·have n2 : decide (¬ ((t.sin.getD i default).length : Int) = n) = true := decide_eq_true p2
    repeat (first | rw [ko] | rw [kr] | simp -dsimp -implicitDefEqProofs only [go_sem, sQ1, hks, ei, q5, q6, q7, n1, n2, row])
    exact ⟨hle, ⟨_, rfl⟩, by rw [hB, Gh (l := t.sin) q7 (by rw [Dj, decide_eq_false p2]; rfl), Bool.and_false]⟩
   have n2 : decide (¬ ((t.sin.getD i default).length : Int) = n) = false := decide_eq_false (fun h => h p2)
   repeat (first | rw [ko] | rw [kr] | simp -dsimp -implicitDefEqProofs only [go_sem, sQ1, hks, ei, q5, q6, q7, n1, n2, row])
   refine AD (BB (by have := Bf s1 i; omega)) ?_
   rintro _ k1 hk1 rfl
   cases p3 : allI (t.cos.getD i default) (-128) 128
   ·refine zr ?_
    exact ⟨AK hle hk1, ⟨_, rfl⟩, by rw [hB, Gh q6 (by rw [Dj, p3, Bool.and_false])]; rfl⟩
   repeat (first | rw [ko] | rw [kr] | simp -dsimp -implicitDefEqProofs only [go_sem, sQ1, q7, row])
   refine AD (BB (by have := Bf s2 i; omega)) ?_
   rintro _ k2 hk2 rfl
   cases p4 : allI (t.sin.getD i default) (-128) 128
   ·refine zr ?_
    exact ⟨AK (AK hle hk1) hk2, ⟨_, rfl⟩, by rw [hB, Gh (l := t.sin) q7 (by rw [Dj, p4, Bool.and_false]), Bool.and_false]⟩
   refine A1 w1 ?_
   refine AI (mm - 1) (by omega) AL ⟨i + 1, AK (AK hle hk1) hk2, by simp -dsimp -implicitDefEqProofs only [go_sem, row], AL, by omega, fun j hj => ?_⟩
   by_cases hji : j = i
   ·subst hji; exact ⟨by rw [Dj, decide_eq_true p1, p3]; rfl, by rw [Dj, decide_eq_true p2, p4]; rfl⟩
   ·exact hpre j (by omega)
  ·refine DH hks ei q5 ?_
   refine ⟨hle, ⟨_, rfl⟩, ?_⟩
   rw [hB, Ke h3 fun j hj => (hpre j (by omega)).1, Ke h4 fun j hj => (hpre j (by omega)).2]; rfl
end Go.Bi
end
