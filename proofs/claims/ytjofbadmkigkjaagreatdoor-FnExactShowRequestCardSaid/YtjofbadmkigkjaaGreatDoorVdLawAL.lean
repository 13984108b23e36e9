/- Own lemmas that the theorem of this claim needs: the abstract machine and walks of functions. -/
import Derived.Test.YtjofbadmkigkjaaGreatDoorVdLawAK
set_option linter.unusedSimpArgs false
set_option linter.unusedVariables false
open Nat renaming reduceBEq → rq1, reduceAdd → rq2, reduceLeDiff → rq3, reduceMul → rq4
open Int renaming reduceLE → rq5, reduceLT → rq6, reduceBEq → rq7
section
set_option maxRecDepth 20000
namespace Go.Bi
open Go.Proofs
open Go.Ai (wrap_i64 wrap_u8)
variable {W0 : World}
structure LPart where
 shift : Int
 values : List Int
instance : Inhabited LPart := ⟨⟨default, default⟩⟩
def ePart (c : LPart) : List T := [.v (.int .i64 c.shift), .l 1 (ints c.values)]
def xPart (F : Nat → Adr) (c : LPart) : List X := [.raw (.int .i64 c.shift), .sl (F 1) 1 (ints c.values)]
theorem ePart_def {c : LPart} : ePart c = [.v (.int .i64 c.shift), .l 1 (ints c.values)] := rfl
theorem xPart_def {F : Nat → Adr} {c : LPart} : xPart F c = [.raw (.int .i64 c.shift), .sl (F 1) 1 (ints c.values)] := rfl
def szPart (c : LPart) : Nat := c.values.length
def fitPart (c : LPart) : Prop := c.values.length ≤ 9223372036854775807
attribute [go_sem] ePart_def xPart_def
theorem outPart {g : H2} {c : LPart} {b1 : List Nat} {s1 : X} (a1 : OT g b1 s1 (.l 1 (ints c.values))) : OTs g (b1) [.raw (.int .i64 c.shift), s1] (ePart c) := by
 have := OTs.cons (OT.raw (v := .int .i64 c.shift) rfl) (OTs.cons a1 (OTs.nil))
 simpa only [ePart, List.append_nil, List.nil_append] using this
theorem szPart_ok {F : Nat → Adr} {c : LPart} {left : Int} {h : H2} (hf : fitPart c) (hl : 0 ≤ left ∧ left ≤ 1048576) : PW Tryz.prog W0 176 [.st (xPart F c), .raw (.int .i64 left)] h (fun y => ∃ k : Int, y = .raw (.int .i64 k) ∧ (0 ≤ k → (szPart c : Int) + k ≤ left)) := by
 unfold fitPart at hf
 refine PW.scalar ?_
 refine begins [[0, 1], [1, 2], [1], [], [1]] Tryz.func176 rfl (rs := [.tmp 4]) rfl rfl ?_
 intro wf
 repeat (first | rw [ko] | rw [kr] | simp -dsimp -implicitDefEqProofs only [go_sem, rq1])
 refine pw_intro (szIntS_pw  hf ⟨by omega, by omega⟩) ?_
 rintro _ n1 hn1 ⟨k1, rfl, hk1⟩
 repeat (first | rw [ko] | rw [kr] | simp -dsimp -implicitDefEqProofs only [go_sem])
 refine gz_dec (fun q1 => ?_) (fun q1 => ?_)
 ·repeat (first | rw [ko] | rw [kr] | simp -dsimp -implicitDefEqProofs only [go_sem])
  exact ⟨zale, ⟨_, rfl⟩, _, rfl, fun hh => by omega⟩
 repeat (first | rw [ko] | rw [kr] | simp -dsimp -implicitDefEqProofs only [go_sem, rq1])
 exact ⟨zale, ⟨_, rfl⟩, _, rfl, fun hh => by unfold szPart; omega⟩
theorem eqPart_ok {F F' : Nat → Adr} {c : LPart} {h : H2} (hf : fitPart c) : PW Tryz.prog W0 193 [.st (xPart F c), .st (xPart F' c)] h (fun y => y = .raw (.bool true)) := by
 unfold fitPart at hf
 refine PW.scalar ?_
 refine begins [[0, 1], [2, 3], [], [2, 3], [], []] Tryz.func193 rfl (rs := [.tmp 4]) rfl rfl ?_
 intro wf
 repeat (first | rw [ko] | rw [kr] | simp -dsimp -implicitDefEqProofs only [go_sem, rq1])
 refine pw_intro (eqIntS_pw  hf) ?_
 rintro _ n1 hn1 rfl
 repeat (first | rw [ko] | rw [kr] | simp -dsimp -implicitDefEqProofs only [go_sem])
 exact ⟨zale, ⟨_, rfl⟩, rfl⟩
theorem toPart_ok {F : Nat → Adr} {c : LPart} {h : H2} (hs : szPart c ≤ 1048576) : NewS Tryz.prog W0 179 [.st (xPart F c)] h (ePart c) := by
 unfold szPart at hs
 refine begins [[0], [1, 2], [1, 2, 3], [1, 2, 3], [2, 3]] Tryz.func179 rfl (rs := [.cell 2 221]) rfl rfl ?_
 intro wf
 repeat (first | rw [ko] | rw [kr] | simp -dsimp -implicitDefEqProofs only [go_sem, rq1])
 refine wz_intro (toIntS_new  (by omega)) ?_
 rintro s1 g1 ⟨l1, b1, o1, bl1⟩
 have ce1 := OT.cell o1
 have n1 := l1.n
 have a10 := l1.2 (hn h .mk) (by simp only [hn_push, hn_set]; omega)
 have a11 := l1.2 (hn h .mk + 1) (by simp only [hn_push, hn_set]; omega)
 have a12 := l1.2 (hn h .mk + 1 + 1) (by simp only [hn_push, hn_set]; omega)
 simp -dsimp -implicitDefEqProofs only [go_sem, hoo] at n1 a10 a11 a12
 have L1 : h.le g1 := H2.le.trans zale l1
 repeat (first | rw [ko] | rw [kr] | simp -dsimp -implicitDefEqProofs only [go_sem, rq1, rq2, a11, a12, ce1])
 refine ⟨zale, _, b1, rfl, outPart (c := c) ?_, ?_⟩
 ·refine OT.frame o1 fun b hb => ?_
  have hbl := bl1.2 b (hb)
  simp only [hn_push, hn_set] at hbl
  simp only [H2.set]
  rw [if_neg (by omega), if_neg (by omega)]
 ·simp only [hn_set]
  have m1 := bl1
  simp only [hn_push, hn_set] at m1
  have := (m1).wide (N' := hn h .mk) (by omega) (Nat.le_refl _)
  simpa only [List.append_assoc] using this
def rPartS (zs : List LPart) : List (List T) := zs.map ePart
theorem rPartS_len {zs : List LPart} : (rPartS zs).length = zs.length := by simp [rPartS]
theorem rPartS_el {zs : List LPart} {i : Nat} (hi : i < zs.length) : el (rPartS zs) i = ePart (zs.getD i default) := el_map hi
attribute [go_sem] rPartS_len rPartS_el
def szPartS (zs : List LPart) : Nat := zs.length + sumN szPart zs
def fitPartS (zs : List LPart) : Prop := zs.length ≤ 9223372036854775807 ∧ ∀ x ∈ zs, fitPart x
theorem szPartS_pw {f : Adr} {zs : List LPart} {left : Int} {h : H2} (hf : fitPartS zs) (hl : 0 ≤ left ∧ left ≤ 1048576) : PW Tryz.prog W0 148 [.sl f 2 (rPartS zs), .raw (.int .i64 left)] h (fun y => ∃ k : Int, y = .raw (.int .i64 k) ∧ (0 ≤ k → (szPartS zs : Int) + k ≤ left)) := by
 obtain ⟨hf1, hf2⟩ := hf
 unfold szPartS
 have hw : IntKind.i64.wrap (left - zs.length) = left - zs.length := by rw [wrap_i64] <;> omega
 refine PW.scalar ?_
 refine begins [[0, 1], [0, 1], [0, 1], [], [0, 1], [0, 1, 5], [0, 1, 5], [0, 1, 5], [0, 1, 5], [], [1]] Tryz.func148 rfl (rs := [.tmp 4]) rfl rfl ?_
 intro wf
 repeat (first | rw [ko] | rw [kr] | simp -dsimp -implicitDefEqProofs only [go_sem, rq1, hw])
 refine gz_dec (fun h1 => ?_) (fun h1 => ?_)
 ·repeat (first | rw [ko] | rw [kr] | simp -dsimp -implicitDefEqProofs only [go_sem])
  exact ⟨H2.le.refl _, ⟨_, rfl⟩, _, rfl, fun hh => by omega⟩
 ·repeat (first | rw [ko] | rw [kr] | simp -dsimp -implicitDefEqProofs only [go_sem, rq1])
  refine lz_keep [0] (fun m e h' => ∃ (k n : Nat) (x : Int), h' = h.up n ∧ hn h .mk ≤ n ∧ look e 5 .mk = .raw (.int .i64 k) ∧ look e 1 .mk = .raw (.int .i64 x) ∧ 0 ≤ x ∧ (zs.length : Int) + sumN szPart (zs.take k) + x ≤ left ∧ m + k = zs.length) zs.length ?_ ?_
  ·exact ⟨0, hn h .mk, left - zs.length, up_self, Nat.le_refl _, zsm, zsm, by omega, by simp [sumN]; omega, by omega⟩
  ·rintro m e h' hks ⟨k, n, x, rfl, hnn, e5, e1, hx, hsum, hk⟩
   simp -dsimp -implicitDefEqProofs only [go_sem, rq1] at hks
   by_cases h2 : (k : Int) < (zs.length : Int)
   ·have h3 : k < zs.length := by omega
    have hst : sumN szPart (zs.take (k + 1)) = sumN szPart (zs.take k) + szPart (zs.getD k default) := sumN_take (f := szPart) h3
    repeat (first | rw [ko] | rw [kr] | simp -dsimp -implicitDefEqProofs only [go_sem, rq1, rq2, rq3, hks, e5, e1, h2, h3])
    refine pw_intro (szPart_ok (F := under (under f k)) (c := zs.getD k default) (hf2 _ (getD_mem h3)) ⟨by omega, by omega⟩) ?_
    rintro _ n2 hn2 ⟨x2, rfl, hx2⟩
    simp only [hn_up] at hn2
    repeat (first | rw [ko] | rw [kr] | simp -dsimp -implicitDefEqProofs only [go_sem, rq1])
    refine gz_dec (fun h4 => ?_) (fun h4 => ?_)
    ·repeat (first | rw [ko] | rw [kr] | simp -dsimp -implicitDefEqProofs only [go_sem])
     exact ⟨(by first | exact le_up (H2.le.refl _) (by omega) | exact le_up (le_up (H2.le.refl _) hnn) (by rw [hn_up]; omega)), ⟨_, rfl⟩, _, rfl, fun hh => by omega⟩
    ·repeat (first | rw [ko] | rw [kr] | simp -dsimp -implicitDefEqProofs only [go_sem, rq1, wrap_succ h3 hf1])
     exact nx_keep (m - 1) (by omega) zsm ⟨k + 1, n2, x2, up_up, by omega, zsm, zsm, by omega, by have := hx2 (by omega); omega, by omega⟩
   ·repeat (first | rw [ko] | rw [kr] | simp -dsimp -implicitDefEqProofs only [go_sem, rq1, hks, e5, e1, h2])
    refine ⟨le_up (H2.le.refl _) hnn, ⟨_, rfl⟩, x, rfl, fun _ => ?_⟩
    rw [List.take_of_length_le (by omega)] at hsum
    omega
theorem eqPartS_pw {f f' : Adr} {zs : List LPart} {h : H2} (hf : fitPartS zs) : PW Tryz.prog W0 175 [.sl f 2 (rPartS zs), .sl f' 2 (rPartS zs)] h (fun y => y = .raw (.bool true)) := by
 obtain ⟨hf1, hf2⟩ := hf
 refine PW.scalar ?_
 refine begins [[0, 1], [0, 1], [], [0, 1], [0, 1, 5], [0, 1, 5], [0, 1, 5], [], []] Tryz.func175 rfl (rs := [.tmp 4]) rfl rfl ?_
 intro wf
 repeat (first | rw [ko] | rw [kr] | simp -dsimp -implicitDefEqProofs only [go_sem, rq1])
 refine lz_keep [0, 1] (fun m e h' => ∃ (k n : Nat), h' = h.up n ∧ hn h .mk ≤ n ∧ look e 5 .mk = .raw (.int .i64 k) ∧ m + k = zs.length) zs.length ?_ ?_
 ·exact ⟨0, hn h .mk, up_self, Nat.le_refl _, zsm, by omega⟩
 ·rintro m e h' hks ⟨k, n, rfl, hnn, e5, hk⟩
  simp -dsimp -implicitDefEqProofs only [go_sem, rq1] at hks
  by_cases h2 : (k : Int) < (zs.length : Int)
  ·have h3 : k < zs.length := by omega
   repeat (first | rw [ko] | rw [kr] | simp -dsimp -implicitDefEqProofs only [go_sem, rq1, hks, e5, h2])
   refine dq_intro [(0, []), (1, []), (2, []), (3, []), (4, []), (5, []), (6, []), (7, []), (8, []), (9, [])] (by kernel_rfl) ?_
   repeat (first | rw [ko] | rw [kr] | simp -dsimp -implicitDefEqProofs only [go_sem, rq1, rq2, rq3, h3])
   refine pw_intro (eqPart_ok (F := under (under f k)) (F' := under (under f' k)) (c := zs.getD k default) (hf2 _ (getD_mem h3))) ?_
   rintro _ n2 hn2 rfl
   simp only [hn_up] at hn2
   repeat (first | rw [ko] | rw [kr] | simp -dsimp -implicitDefEqProofs only [go_sem, rq1, wrap_succ h3 hf1])
   exact nx_keep (m - 1) (by omega) zsm ⟨k + 1, n2, up_up, by omega, zsm, by omega⟩
  ·repeat (first | rw [ko] | rw [kr] | simp -dsimp -implicitDefEqProofs only [go_sem, rq1, hks, e5, h2])
   exact ⟨le_up (H2.le.refl _) hnn, ⟨_, rfl⟩, rfl⟩
theorem toPartS_new {f : Adr} {zs : List LPart} {h : H2} (hs : szPartS zs ≤ 1048576) : NewT Tryz.prog W0 152 [.sl f 2 (rPartS zs)] h (.l 2 (rPartS zs)) := by
 unfold szPartS at hs
 have hE : ∀ a, (ePart a).length = 2 := fun a => rfl
 refine begins [[0], [0], [0, 3], [0, 3, 4], [0, 3, 4], [0, 3, 4], [3]] Tryz.func152 rfl (rs := [.tmp 2]) rfl rfl ?_
 intro wf
 repeat (first | rw [ko] | rw [kr] | simp -dsimp -implicitDefEqProofs only [go_sem])
 refine make_intro Ai.ty_el195 Ai.ty_zr221 (by decide) ⟨by omega, by simp only [Int.toNat_natCast]; have : Ai.most = 1099511627776 := rfl; omega⟩ ?_
 repeat (first | rw [ko] | rw [kr] | simp -dsimp -implicitDefEqProofs only [go_sem, rq1])
 refine lz_keep [0, 3] (fun m e h' => ∃ (k : Nat) (cs : List X) (bs : List Nat), look e 4 .mk = .raw (.int .i64 k) ∧ m + k = zs.length ∧ hg h' (hn h .mk) .mk = some ⟨2, cs⟩ ∧ cs.length = zs.length * 2 ∧ OTs h' bs (cs.take (k * 2)) (((zs.take k).map ePart).flatten) ∧ Bl (hn h .mk + 1) (hn h' .mk) bs ∧ h.le h' ∧ hn h .mk < hn h' .mk) zs.length ?_ ?_
 ·exact ⟨0, _, [], zsm, by omega, (by rw [hg_push, hoo]; rfl), by simp [rep_len], by simpa using OTs.nil, Bl.nil, le_push (H2.le.refl _), by rw [hn_push]; omega⟩
 ·rintro m e h' hks ⟨k, cs, bs, e4, hk, hrow, hcs, ho, hbl, hle, hlt⟩
  simp -dsimp -implicitDefEqProofs only [go_sem] at hks
  by_cases h2 : (k : Int) < (zs.length : Int)
  ·have h3 : k < zs.length := by omega
   have hsm : szPart (zs.getD k default) ≤ sumN szPart zs := sumN_mem (f := szPart) (getD_mem h3)
   repeat (first | rw [ko] | rw [kr] | simp -dsimp -implicitDefEqProofs only [go_sem, rq1, rq2, rq3, hks, e4, h2, h3])
   refine wz_intro (toPart_ok (F := under (under f k)) (c := zs.getD k default) (by omega)) ?_
   rintro _ g2 ⟨l2, ys, b2, rfl, o2, bl2⟩
   have nn2 := l2.1
   have hyl : (ys).length = 2 := (OTs.len o2).trans (hE _)
   have hyo := OTs.okx o2
   obtain ⟨w1, w2, w3⟩ := wrt_next hcs h3 hyl
   have row2 := (l2.2 (hn h .mk) hlt).trans hrow
   have hi2 : (0 : Int) ≤ (k : Int) ∧ (k : Int) < (zs.length : Int) := by omega
   repeat (first | rw [ko] | rw [kr] | simp -dsimp -implicitDefEqProofs only [go_sem, rq1, row2, hi2, hyl, hyo, w1, wrap_succ h3 (by omega)])
   have hset : ∀ {b : Nat} {kk : OB}, b ≠ hn h .mk → (g2.set (hn h .mk) kk).get b = g2.get b := fun hb => by simp only [H2.set]; rw [if_neg hb]
   refine nx_keep (m - 1) (by omega) zsm ⟨k + 1, _, bs ++ b2, zsm, by omega, (by rw [hg_set, hoo]; rfl), w2, ?_, ?_, le_set (hle.trans l2) (Nat.le_refl _), by simp -dsimp -implicitDefEqProofs only [go_sem] <;> omega⟩
   ·rw [w3, flat_next h3]
    refine OTs.append ((OTs.keep ho l2 hbl).frame fun b hb => hset (by have := (hbl.2 b hb).1; omega)) (o2.frame fun b hb => hset (by have := (bl2.2 b hb).1; omega))
   ·rw [hn_set]
    exact hbl.append bl2 (by omega) nn2
  ·repeat (first | rw [ko] | rw [kr] | simp -dsimp -implicitDefEqProofs only [go_sem, rq1, hks, e4, h2])
   have : k = zs.length := by omega
   subst this
   obtain ⟨q1, q2⟩ := OT.full hE hrow hcs ho hbl hlt
   exact ⟨hle, _, q1, q2⟩
def ePartS (zs : List LPart) : List T := [.l 2 (rPartS zs)]
theorem ePartS_def {zs : List LPart} : ePartS zs = [.l 2 (rPartS zs)] := rfl
attribute [go_sem] ePartS_def
def rPartSS (zs : List (List LPart)) : List (List T) := zs.map ePartS
theorem rPartSS_len {zs : List (List LPart)} : (rPartSS zs).length = zs.length := by simp [rPartSS]
theorem rPartSS_el {zs : List (List LPart)} {i : Nat} (hi : i < zs.length) : el (rPartSS zs) i = ePartS (zs.getD i default) := el_map hi
attribute [go_sem] rPartSS_len rPartSS_el
def szPartSS (zs : List (List LPart)) : Nat := zs.length + sumN szPartS zs
def fitPartSS (zs : List (List LPart)) : Prop := zs.length ≤ 9223372036854775807 ∧ ∀ x ∈ zs, fitPartS x
theorem szPartSS_pw {f : Adr} {zs : List (List LPart)} {left : Int} {h : H2} (hf : fitPartSS zs) (hl : 0 ≤ left ∧ left ≤ 1048576) : PW Tryz.prog W0 113 [.sl f 1 (rPartSS zs), .raw (.int .i64 left)] h (fun y => ∃ k : Int, y = .raw (.int .i64 k) ∧ (0 ≤ k → (szPartSS zs : Int) + k ≤ left)) := by
 obtain ⟨hf1, hf2⟩ := hf
 unfold szPartSS
 have hw : IntKind.i64.wrap (left - zs.length) = left - zs.length := by rw [wrap_i64] <;> omega
 refine PW.scalar ?_
 refine begins [[0, 1], [0, 1], [0, 1], [], [0, 1], [0, 1, 5], [0, 1, 5], [0, 1, 5], [0, 1, 5], [], [1]] Tryz.func113 rfl (rs := [.tmp 4]) rfl rfl ?_
 intro wf
 repeat (first | rw [ko] | rw [kr] | simp -dsimp -implicitDefEqProofs only [go_sem, rq1, hw])
 refine gz_dec (fun h1 => ?_) (fun h1 => ?_)
 ·repeat (first | rw [ko] | rw [kr] | simp -dsimp -implicitDefEqProofs only [go_sem])
  exact ⟨H2.le.refl _, ⟨_, rfl⟩, _, rfl, fun hh => by omega⟩
 ·repeat (first | rw [ko] | rw [kr] | simp -dsimp -implicitDefEqProofs only [go_sem, rq1])
  refine lz_keep [0] (fun m e h' => ∃ (k n : Nat) (x : Int), h' = h.up n ∧ hn h .mk ≤ n ∧ look e 5 .mk = .raw (.int .i64 k) ∧ look e 1 .mk = .raw (.int .i64 x) ∧ 0 ≤ x ∧ (zs.length : Int) + sumN szPartS (zs.take k) + x ≤ left ∧ m + k = zs.length) zs.length ?_ ?_
  ·exact ⟨0, hn h .mk, left - zs.length, up_self, Nat.le_refl _, zsm, zsm, by omega, by simp [sumN]; omega, by omega⟩
  ·rintro m e h' hks ⟨k, n, x, rfl, hnn, e5, e1, hx, hsum, hk⟩
   simp -dsimp -implicitDefEqProofs only [go_sem, rq1] at hks
   by_cases h2 : (k : Int) < (zs.length : Int)
   ·have h3 : k < zs.length := by omega
    have hst : sumN szPartS (zs.take (k + 1)) = sumN szPartS (zs.take k) + szPartS (zs.getD k default) := sumN_take (f := szPartS) h3
    repeat (first | rw [ko] | rw [kr] | simp -dsimp -implicitDefEqProofs only [go_sem, rq1, hks, e5, e1, h2, h3])
    refine pw_intro (szPartS_pw (hf2 _ (getD_mem h3)) ⟨by omega, by omega⟩) ?_
    rintro _ n2 hn2 ⟨x2, rfl, hx2⟩
    simp only [hn_up] at hn2
    repeat (first | rw [ko] | rw [kr] | simp -dsimp -implicitDefEqProofs only [go_sem, rq1])
    refine gz_dec (fun h4 => ?_) (fun h4 => ?_)
    ·repeat (first | rw [ko] | rw [kr] | simp -dsimp -implicitDefEqProofs only [go_sem])
     exact ⟨(by first | exact le_up (H2.le.refl _) (by omega) | exact le_up (le_up (H2.le.refl _) hnn) (by rw [hn_up]; omega)), ⟨_, rfl⟩, _, rfl, fun hh => by omega⟩
    ·repeat (first | rw [ko] | rw [kr] | simp -dsimp -implicitDefEqProofs only [go_sem, rq1, wrap_succ h3 hf1])
     exact nx_keep (m - 1) (by omega) zsm ⟨k + 1, n2, x2, up_up, by omega, zsm, zsm, by omega, by have := hx2 (by omega); omega, by omega⟩
   ·repeat (first | rw [ko] | rw [kr] | simp -dsimp -implicitDefEqProofs only [go_sem, rq1, hks, e5, e1, h2])
    refine ⟨le_up (H2.le.refl _) hnn, ⟨_, rfl⟩, x, rfl, fun _ => ?_⟩
    rw [List.take_of_length_le (by omega)] at hsum
    omega
theorem eqPartSS_pw {f f' : Adr} {zs : List (List LPart)} {h : H2} (hf : fitPartSS zs) : PW Tryz.prog W0 147 [.sl f 1 (rPartSS zs), .sl f' 1 (rPartSS zs)] h (fun y => y = .raw (.bool true)) := by
 obtain ⟨hf1, hf2⟩ := hf
 refine PW.scalar ?_
 refine begins [[0, 1], [0, 1], [], [0, 1], [0, 1, 5], [0, 1, 5], [0, 1, 5], [], []] Tryz.func147 rfl (rs := [.tmp 4]) rfl rfl ?_
 intro wf
 repeat (first | rw [ko] | rw [kr] | simp -dsimp -implicitDefEqProofs only [go_sem, rq1])
 refine lz_keep [0, 1] (fun m e h' => ∃ (k n : Nat), h' = h.up n ∧ hn h .mk ≤ n ∧ look e 5 .mk = .raw (.int .i64 k) ∧ m + k = zs.length) zs.length ?_ ?_
 ·exact ⟨0, hn h .mk, up_self, Nat.le_refl _, zsm, by omega⟩
 ·rintro m e h' hks ⟨k, n, rfl, hnn, e5, hk⟩
  simp -dsimp -implicitDefEqProofs only [go_sem, rq1] at hks
  by_cases h2 : (k : Int) < (zs.length : Int)
  ·have h3 : k < zs.length := by omega
   repeat (first | rw [ko] | rw [kr] | simp -dsimp -implicitDefEqProofs only [go_sem, rq1, hks, e5, h2])
   refine dq_intro [(0, []), (1, []), (2, []), (3, []), (4, []), (5, []), (6, []), (7, []), (8, []), (9, [])] (by kernel_rfl) ?_
   repeat (first | rw [ko] | rw [kr] | simp -dsimp -implicitDefEqProofs only [go_sem, rq1, h3])
   refine pw_intro (eqPartS_pw (hf2 _ (getD_mem h3))) ?_
   rintro _ n2 hn2 rfl
   simp only [hn_up] at hn2
   repeat (first | rw [ko] | rw [kr] | simp -dsimp -implicitDefEqProofs only [go_sem, rq1, wrap_succ h3 hf1])
   exact nx_keep (m - 1) (by omega) zsm ⟨k + 1, n2, up_up, by omega, zsm, by omega⟩
  ·repeat (first | rw [ko] | rw [kr] | simp -dsimp -implicitDefEqProofs only [go_sem, rq1, hks, e5, h2])
   exact ⟨le_up (H2.le.refl _) hnn, ⟨_, rfl⟩, rfl⟩
theorem toPartSS_new {f : Adr} {zs : List (List LPart)} {h : H2} (hs : szPartSS zs ≤ 1048576) : NewT Tryz.prog W0 118 [.sl f 1 (rPartSS zs)] h (.l 1 (rPartSS zs)) := by
 unfold szPartSS at hs
 have hE : ∀ a, (ePartS a).length = 1 := fun a => rfl
 refine begins [[0], [0], [0, 3], [0, 3, 4], [0, 3, 4], [0, 3, 4], [3]] Tryz.func118 rfl (rs := [.tmp 2]) rfl rfl ?_
 intro wf
 repeat (first | rw [ko] | rw [kr] | simp -dsimp -implicitDefEqProofs only [go_sem])
 refine make_intro Ai.ty_el164 Ai.ty_zr195 (by decide) ⟨by omega, by simp only [Int.toNat_natCast]; have : Ai.most = 1099511627776 := rfl; omega⟩ ?_
 repeat (first | rw [ko] | rw [kr] | simp -dsimp -implicitDefEqProofs only [go_sem, rq1])
 refine lz_keep [0, 3] (fun m e h' => ∃ (k : Nat) (cs : List X) (bs : List Nat), look e 4 .mk = .raw (.int .i64 k) ∧ m + k = zs.length ∧ hg h' (hn h .mk) .mk = some ⟨1, cs⟩ ∧ cs.length = zs.length * 1 ∧ OTs h' bs (cs.take (k * 1)) (((zs.take k).map ePartS).flatten) ∧ Bl (hn h .mk + 1) (hn h' .mk) bs ∧ h.le h' ∧ hn h .mk < hn h' .mk) zs.length ?_ ?_
 ·exact ⟨0, _, [], zsm, by omega, (by rw [hg_push, hoo]; rfl), by simp [rep_len], by simpa using OTs.nil, Bl.nil, le_push (H2.le.refl _), by rw [hn_push]; omega⟩
 ·rintro m e h' hks ⟨k, cs, bs, e4, hk, hrow, hcs, ho, hbl, hle, hlt⟩
  simp -dsimp -implicitDefEqProofs only [go_sem] at hks
  by_cases h2 : (k : Int) < (zs.length : Int)
  ·have h3 : k < zs.length := by omega
   have hsm : szPartS (zs.getD k default) ≤ sumN szPartS zs := sumN_mem (f := szPartS) (getD_mem h3)
   repeat (first | rw [ko] | rw [kr] | simp -dsimp -implicitDefEqProofs only [go_sem, rq1, hks, e4, h2, h3])
   refine wz_intro (toPartS_new (by omega)) ?_
   rintro y g2 ⟨l2, b2, o1, bl2⟩
   have hy1 := OT.okx o1
   have o2 := OTs.one o1
   have nn2 := l2.1
   have hyl : ([y]).length = 1 := (OTs.len o2).trans (hE _)
   have hyo := OTs.okx o2
   obtain ⟨w1, w2, w3⟩ := wrt_next hcs h3 hyl
   have row2 := (l2.2 (hn h .mk) hlt).trans hrow
   have hi2 : (0 : Int) ≤ (k : Int) ∧ (k : Int) < (zs.length : Int) := by omega
   rw [Nat.mul_one] at w1
   repeat (first | rw [ko] | rw [kr] | simp -dsimp -implicitDefEqProofs only [go_sem, rq1, row2, hi2, hyl, hyo, w1, hy1, wrap_succ h3 (by omega)])
   have hset : ∀ {b : Nat} {kk : OB}, b ≠ hn h .mk → (g2.set (hn h .mk) kk).get b = g2.get b := fun hb => by simp only [H2.set]; rw [if_neg hb]
   refine nx_keep (m - 1) (by omega) zsm ⟨k + 1, _, bs ++ b2, zsm, by omega, (by rw [hg_set, hoo]; rfl), (by rw [← Nat.mul_one k]; exact w2), ?_, ?_, le_set (hle.trans l2) (Nat.le_refl _), by simp -dsimp -implicitDefEqProofs only [go_sem] <;> omega⟩
   ·rw [show cs.take k = cs.take (k * 1) by rw [Nat.mul_one], show cs.drop (k + 1) = cs.drop (k * 1 + 1) by rw [Nat.mul_one]]; rw [w3, flat_next h3]
    refine OTs.append ((OTs.keep ho l2 hbl).frame fun b hb => hset (by have := (hbl.2 b hb).1; omega)) (o2.frame fun b hb => hset (by have := (bl2.2 b hb).1; omega))
   ·rw [hn_set]
    exact hbl.append bl2 (by omega) nn2
  ·repeat (first | rw [ko] | rw [kr] | simp -dsimp -implicitDefEqProofs only [go_sem, rq1, hks, e4, h2])
   have : k = zs.length := by omega
   subst this
   obtain ⟨q1, q2⟩ := OT.full hE hrow hcs ho hbl hlt
   exact ⟨hle, _, q1, q2⟩
structure LCell where
 keys : List (List LPart)
 values : List (List LPart)
instance : Inhabited LCell := ⟨⟨default, default⟩⟩
def eCell (c : LCell) : List T := [.l 1 (rPartSS c.keys), .l 1 (rPartSS c.values)]
def xCell (F : Nat → Adr) (c : LCell) : List X := [.sl (F 0) 1 (rPartSS c.keys), .sl (F 1) 1 (rPartSS c.values)]
theorem eCell_def {c : LCell} : eCell c = [.l 1 (rPartSS c.keys), .l 1 (rPartSS c.values)] := rfl
theorem xCell_def {F : Nat → Adr} {c : LCell} : xCell F c = [.sl (F 0) 1 (rPartSS c.keys), .sl (F 1) 1 (rPartSS c.values)] := rfl
def szCell (c : LCell) : Nat := szPartSS c.keys + szPartSS c.values
def fitCell (c : LCell) : Prop := fitPartSS c.keys ∧ fitPartSS c.values
attribute [go_sem] eCell_def xCell_def
theorem outCell {g : H2} {c : LCell} {b0 b1 : List Nat} {s0 s1 : X} (a0 : OT g b0 s0 (.l 1 (rPartSS c.keys))) (a1 : OT g b1 s1 (.l 1 (rPartSS c.values))) : OTs g (b0 ++ b1) [s0, s1] (eCell c) := by
 have := OTs.cons a0 (OTs.cons a1 (OTs.nil))
 simpa only [eCell, List.append_nil, List.nil_append] using this
theorem szCell_ok {F : Nat → Adr} {c : LCell} {left : Int} {h : H2} (hf : fitCell c) (hl : 0 ≤ left ∧ left ≤ 1048576) : PW Tryz.prog W0 82 [.st (xCell F c), .raw (.int .i64 left)] h (fun y => ∃ k : Int, y = .raw (.int .i64 k) ∧ (0 ≤ k → (szCell c : Int) + k ≤ left)) := by
 unfold fitCell at hf
 refine PW.scalar ?_
 refine begins [[0, 1], [1, 2], [1, 2], [], [1, 2], [1], [], [1]] Tryz.func82 rfl (rs := [.tmp 4]) rfl rfl ?_
 intro wf
 repeat (first | rw [ko] | rw [kr] | simp -dsimp -implicitDefEqProofs only [go_sem, rq1])
 refine pw_intro (szPartSS_pw  hf.1 ⟨by omega, by omega⟩) ?_
 rintro _ n0 hn0 ⟨k0, rfl, hk0⟩
 repeat (first | rw [ko] | rw [kr] | simp -dsimp -implicitDefEqProofs only [go_sem, rq1])
 refine gz_dec (fun q0 => ?_) (fun q0 => ?_)
 ·repeat (first | rw [ko] | rw [kr] | simp -dsimp -implicitDefEqProofs only [go_sem])
  exact ⟨zale, ⟨_, rfl⟩, _, rfl, fun hh => by omega⟩
 repeat (first | rw [ko] | rw [kr] | simp -dsimp -implicitDefEqProofs only [go_sem, rq1])
 refine pw_intro (szPartSS_pw  hf.2 ⟨by omega, by omega⟩) ?_
 rintro _ n1 hn1 ⟨k1, rfl, hk1⟩
 repeat (first | rw [ko] | rw [kr] | simp -dsimp -implicitDefEqProofs only [go_sem])
 refine gz_dec (fun q1 => ?_) (fun q1 => ?_)
 ·repeat (first | rw [ko] | rw [kr] | simp -dsimp -implicitDefEqProofs only [go_sem])
  exact ⟨zale, ⟨_, rfl⟩, _, rfl, fun hh => by omega⟩
 repeat (first | rw [ko] | rw [kr] | simp -dsimp -implicitDefEqProofs only [go_sem, rq1])
 exact ⟨zale, ⟨_, rfl⟩, _, rfl, fun hh => by unfold szCell; omega⟩
theorem eqCell_ok {F F' : Nat → Adr} {c : LCell} {h : H2} (hf : fitCell c) : PW Tryz.prog W0 111 [.st (xCell F c), .st (xCell F' c)] h (fun y => y = .raw (.bool true)) := by
 unfold fitCell at hf
 refine PW.scalar ?_
 refine begins [[0, 1], [2, 3], [], [2, 3], [], []] Tryz.func111 rfl (rs := [.tmp 4]) rfl rfl ?_
 intro wf
 repeat (first | rw [ko] | rw [kr] | simp -dsimp -implicitDefEqProofs only [go_sem])
 refine pw_intro (eqPartSS_pw  hf.1) ?_
 rintro _ n0 hn0 rfl
 repeat (first | rw [ko] | rw [kr] | simp -dsimp -implicitDefEqProofs only [go_sem, rq1])
 refine pw_intro (eqPartSS_pw  hf.2) ?_
 rintro _ n1 hn1 rfl
 repeat (first | rw [ko] | rw [kr] | simp -dsimp -implicitDefEqProofs only [go_sem])
 exact ⟨zale, ⟨_, rfl⟩, rfl⟩
theorem toCell_ok {F : Nat → Adr} {c : LCell} {h : H2} (hs : szCell c ≤ 1048576) : NewS Tryz.prog W0 101 [.st (xCell F c)] h (eCell c) := by
 unfold szCell at hs
 refine begins [[0], [1, 2], [1, 2, 3], [1, 2, 3], [2, 3]] Tryz.func101 rfl (rs := [.cell 2 166]) rfl rfl ?_
 intro wf
 repeat (first | rw [ko] | rw [kr] | simp -dsimp -implicitDefEqProofs only [go_sem])
 refine wz_intro (toPartSS_new  (by omega)) ?_
 rintro s0 g0 ⟨l0, b0, o0, bl0⟩
 have ce0 := OT.cell o0
 have n0 := l0.n
 have a00 := l0.2 (hn h .mk) (by simp only [hn_push]; omega)
 have a01 := l0.2 (hn h .mk + 1) (by simp only [hn_push]; omega)
 have a02 := l0.2 (hn h .mk + 1 + 1) (by simp only [hn_push]; omega)
 simp -dsimp -implicitDefEqProofs only [go_sem, hoo] at n0 a00 a01 a02
 have L0 : h.le g0 := H2.le.trans zale l0
 repeat (first | rw [ko] | rw [kr] | simp -dsimp -implicitDefEqProofs only [go_sem, rq1, a00, a02, ce0])
 refine wz_intro (toPartSS_new  (by omega)) ?_
 rintro s1 g1 ⟨l1, b1, o1, bl1⟩
 have ce1 := OT.cell o1
 have n1 := l1.n
 have a10 := l1.2 (hn h .mk) (by simp only [hn_set]; omega)
 have a11 := l1.2 (hn h .mk + 1) (by simp only [hn_set]; omega)
 have a12 := l1.2 (hn h .mk + 1 + 1) (by simp only [hn_set]; omega)
 simp -dsimp -implicitDefEqProofs only [go_sem, a00, a01, hoo] at n1 a10 a11 a12
 have L1 : h.le g1 := H2.le.trans zale l1
 repeat (first | rw [ko] | rw [kr] | simp -dsimp -implicitDefEqProofs only [go_sem, rq1, rq2, a11, a12, ce0, ce1])
 refine ⟨zale, _, b0 ++ b1, rfl, outCell (c := c) ?_ ?_, ?_⟩
 ·refine OT.frame o0 fun b hb => ?_
  have hbl := bl0.2 b (hb)
  simp only [hn_push] at hbl
  simp only [H2.set]
  rw [if_neg (by omega), if_neg (by omega)]
  rw [show g1.get b = _ from l1.2 b (by simp only [hn_set]; omega)]
  simp only [hg, H2.set]
  rw [if_neg (by omega)]
 ·refine OT.frame o1 fun b hb => ?_
  have hbl := bl1.2 b (hb)
  simp only [hn_set] at hbl
  simp only [H2.set]
  rw [if_neg (by omega), if_neg (by omega)]
 ·simp only [hn_set]
  have m0 := bl0
  simp only [hn_push] at m0
  have m1 := bl1
  simp only [hn_set] at m1
  have := ((Bl.append m0 m1 (by omega) (by omega))).wide (N' := hn h .mk) (by omega) (Nat.le_refl _)
  simpa only [List.append_assoc] using this
def rCellS (zs : List LCell) : List (List T) := zs.map eCell
theorem rCellS_len {zs : List LCell} : (rCellS zs).length = zs.length := by simp [rCellS]
theorem rCellS_el {zs : List LCell} {i : Nat} (hi : i < zs.length) : el (rCellS zs) i = eCell (zs.getD i default) := el_map hi
attribute [go_sem] rCellS_len rCellS_el
def szCellS (zs : List LCell) : Nat := zs.length + sumN szCell zs
def fitCellS (zs : List LCell) : Prop := zs.length ≤ 9223372036854775807 ∧ ∀ x ∈ zs, fitCell x
theorem szCellS_pw {f : Adr} {zs : List LCell} {left : Int} {h : H2} (hf : fitCellS zs) (hl : 0 ≤ left ∧ left ≤ 1048576) : PW Tryz.prog W0 60 [.sl f 2 (rCellS zs), .raw (.int .i64 left)] h (fun y => ∃ k : Int, y = .raw (.int .i64 k) ∧ (0 ≤ k → (szCellS zs : Int) + k ≤ left)) := by
 obtain ⟨hf1, hf2⟩ := hf
 unfold szCellS
 have hw : IntKind.i64.wrap (left - zs.length) = left - zs.length := by rw [wrap_i64] <;> omega
 refine PW.scalar ?_
 refine begins [[0, 1], [0, 1], [0, 1], [], [0, 1], [0, 1, 5], [0, 1, 5], [0, 1, 5], [0, 1, 5], [], [1]] Tryz.func60 rfl (rs := [.tmp 4]) rfl rfl ?_
 intro wf
 repeat (first | rw [ko] | rw [kr] | simp -dsimp -implicitDefEqProofs only [go_sem, rq1, hw])
 refine gz_dec (fun h1 => ?_) (fun h1 => ?_)
 ·repeat (first | rw [ko] | rw [kr] | simp -dsimp -implicitDefEqProofs only [go_sem])
  exact ⟨H2.le.refl _, ⟨_, rfl⟩, _, rfl, fun hh => by omega⟩
 ·repeat (first | rw [ko] | rw [kr] | simp -dsimp -implicitDefEqProofs only [go_sem, rq1])
  refine lz_keep [0] (fun m e h' => ∃ (k n : Nat) (x : Int), h' = h.up n ∧ hn h .mk ≤ n ∧ look e 5 .mk = .raw (.int .i64 k) ∧ look e 1 .mk = .raw (.int .i64 x) ∧ 0 ≤ x ∧ (zs.length : Int) + sumN szCell (zs.take k) + x ≤ left ∧ m + k = zs.length) zs.length ?_ ?_
  ·exact ⟨0, hn h .mk, left - zs.length, up_self, Nat.le_refl _, zsm, zsm, by omega, by simp [sumN]; omega, by omega⟩
  ·rintro m e h' hks ⟨k, n, x, rfl, hnn, e5, e1, hx, hsum, hk⟩
   simp -dsimp -implicitDefEqProofs only [go_sem, rq1] at hks
   by_cases h2 : (k : Int) < (zs.length : Int)
   ·have h3 : k < zs.length := by omega
    have hst : sumN szCell (zs.take (k + 1)) = sumN szCell (zs.take k) + szCell (zs.getD k default) := sumN_take (f := szCell) h3
    repeat (first | rw [ko] | rw [kr] | simp -dsimp -implicitDefEqProofs only [go_sem, rq1, rq2, rq3, hks, e5, e1, h2, h3])
    refine pw_intro (szCell_ok (F := under (under f k)) (c := zs.getD k default) (hf2 _ (getD_mem h3)) ⟨by omega, by omega⟩) ?_
    rintro _ n2 hn2 ⟨x2, rfl, hx2⟩
    simp only [hn_up] at hn2
    repeat (first | rw [ko] | rw [kr] | simp -dsimp -implicitDefEqProofs only [go_sem, rq1])
    refine gz_dec (fun h4 => ?_) (fun h4 => ?_)
    ·repeat (first | rw [ko] | rw [kr] | simp -dsimp -implicitDefEqProofs only [go_sem])
     exact ⟨(by first | exact le_up (H2.le.refl _) (by omega) | exact le_up (le_up (H2.le.refl _) hnn) (by rw [hn_up]; omega)), ⟨_, rfl⟩, _, rfl, fun hh => by omega⟩
    ·repeat (first | rw [ko] | rw [kr] | simp -dsimp -implicitDefEqProofs only [go_sem, rq1, wrap_succ h3 hf1])
     exact nx_keep (m - 1) (by omega) zsm ⟨k + 1, n2, x2, up_up, by omega, zsm, zsm, by omega, by have := hx2 (by omega); omega, by omega⟩
   ·repeat (first | rw [ko] | rw [kr] | simp -dsimp -implicitDefEqProofs only [go_sem, rq1, hks, e5, e1, h2])
    refine ⟨le_up (H2.le.refl _) hnn, ⟨_, rfl⟩, x, rfl, fun _ => ?_⟩
    rw [List.take_of_length_le (by omega)] at hsum
    omega
theorem eqCellS_pw {f f' : Adr} {zs : List LCell} {h : H2} (hf : fitCellS zs) : PW Tryz.prog W0 79 [.sl f 2 (rCellS zs), .sl f' 2 (rCellS zs)] h (fun y => y = .raw (.bool true)) := by
 obtain ⟨hf1, hf2⟩ := hf
 refine PW.scalar ?_
 refine begins [[0, 1], [0, 1], [], [0, 1], [0, 1, 5], [0, 1, 5], [0, 1, 5], [], []] Tryz.func79 rfl (rs := [.tmp 4]) rfl rfl ?_
 intro wf
 repeat (first | rw [ko] | rw [kr] | simp -dsimp -implicitDefEqProofs only [go_sem, rq1])
 refine lz_keep [0, 1] (fun m e h' => ∃ (k n : Nat), h' = h.up n ∧ hn h .mk ≤ n ∧ look e 5 .mk = .raw (.int .i64 k) ∧ m + k = zs.length) zs.length ?_ ?_
 ·exact ⟨0, hn h .mk, up_self, Nat.le_refl _, zsm, by omega⟩
 ·rintro m e h' hks ⟨k, n, rfl, hnn, e5, hk⟩
  simp -dsimp -implicitDefEqProofs only [go_sem, rq1] at hks
  by_cases h2 : (k : Int) < (zs.length : Int)
  ·have h3 : k < zs.length := by omega
   repeat (first | rw [ko] | rw [kr] | simp -dsimp -implicitDefEqProofs only [go_sem, rq1, hks, e5, h2])
   refine dq_intro [(0, []), (1, []), (2, []), (3, []), (4, []), (5, []), (6, []), (7, []), (8, []), (9, [])] (by kernel_rfl) ?_
   repeat (first | rw [ko] | rw [kr] | simp -dsimp -implicitDefEqProofs only [go_sem, rq1, rq2, rq3, h3])
   refine pw_intro (eqCell_ok (F := under (under f k)) (F' := under (under f' k)) (c := zs.getD k default) (hf2 _ (getD_mem h3))) ?_
   rintro _ n2 hn2 rfl
   simp only [hn_up] at hn2
   repeat (first | rw [ko] | rw [kr] | simp -dsimp -implicitDefEqProofs only [go_sem, rq1, wrap_succ h3 hf1])
   exact nx_keep (m - 1) (by omega) zsm ⟨k + 1, n2, up_up, by omega, zsm, by omega⟩
  ·repeat (first | rw [ko] | rw [kr] | simp -dsimp -implicitDefEqProofs only [go_sem, rq1, hks, e5, h2])
   exact ⟨le_up (H2.le.refl _) hnn, ⟨_, rfl⟩, rfl⟩
theorem toCellS_new {f : Adr} {zs : List LCell} {h : H2} (hs : szCellS zs ≤ 1048576) : NewT Tryz.prog W0 70 [.sl f 2 (rCellS zs)] h (.l 2 (rCellS zs)) := by
 unfold szCellS at hs
 have hE : ∀ a, (eCell a).length = 2 := fun a => rfl
 refine begins [[0], [0], [0, 3], [0, 3, 4], [0, 3, 4], [0, 3, 4], [3]] Tryz.func70 rfl (rs := [.tmp 2]) rfl rfl ?_
 intro wf
 repeat (first | rw [ko] | rw [kr] | simp -dsimp -implicitDefEqProofs only [go_sem])
 refine make_intro Ai.ty_el132 Ai.ty_zr166 (by decide) ⟨by omega, by simp only [Int.toNat_natCast]; have : Ai.most = 1099511627776 := rfl; omega⟩ ?_
 repeat (first | rw [ko] | rw [kr] | simp -dsimp -implicitDefEqProofs only [go_sem, rq1])
 refine lz_keep [0, 3] (fun m e h' => ∃ (k : Nat) (cs : List X) (bs : List Nat), look e 4 .mk = .raw (.int .i64 k) ∧ m + k = zs.length ∧ hg h' (hn h .mk) .mk = some ⟨2, cs⟩ ∧ cs.length = zs.length * 2 ∧ OTs h' bs (cs.take (k * 2)) (((zs.take k).map eCell).flatten) ∧ Bl (hn h .mk + 1) (hn h' .mk) bs ∧ h.le h' ∧ hn h .mk < hn h' .mk) zs.length ?_ ?_
 ·exact ⟨0, _, [], zsm, by omega, (by rw [hg_push, hoo]; rfl), by simp [rep_len], by simpa using OTs.nil, Bl.nil, le_push (H2.le.refl _), by rw [hn_push]; omega⟩
 ·rintro m e h' hks ⟨k, cs, bs, e4, hk, hrow, hcs, ho, hbl, hle, hlt⟩
  simp -dsimp -implicitDefEqProofs only [go_sem] at hks
  by_cases h2 : (k : Int) < (zs.length : Int)
  ·have h3 : k < zs.length := by omega
   have hsm : szCell (zs.getD k default) ≤ sumN szCell zs := sumN_mem (f := szCell) (getD_mem h3)
   repeat (first | rw [ko] | rw [kr] | simp -dsimp -implicitDefEqProofs only [go_sem, rq1, rq2, rq3, hks, e4, h2, h3])
   refine wz_intro (toCell_ok (F := under (under f k)) (c := zs.getD k default) (by omega)) ?_
   rintro _ g2 ⟨l2, ys, b2, rfl, o2, bl2⟩
   have nn2 := l2.1
   have hyl : (ys).length = 2 := (OTs.len o2).trans (hE _)
   have hyo := OTs.okx o2
   obtain ⟨w1, w2, w3⟩ := wrt_next hcs h3 hyl
   have row2 := (l2.2 (hn h .mk) hlt).trans hrow
   have hi2 : (0 : Int) ≤ (k : Int) ∧ (k : Int) < (zs.length : Int) := by omega
   repeat (first | rw [ko] | rw [kr] | simp -dsimp -implicitDefEqProofs only [go_sem, rq1, row2, hi2, hyl, hyo, w1, wrap_succ h3 (by omega)])
   have hset : ∀ {b : Nat} {kk : OB}, b ≠ hn h .mk → (g2.set (hn h .mk) kk).get b = g2.get b := fun hb => by simp only [H2.set]; rw [if_neg hb]
   refine nx_keep (m - 1) (by omega) zsm ⟨k + 1, _, bs ++ b2, zsm, by omega, (by rw [hg_set, hoo]; rfl), w2, ?_, ?_, le_set (hle.trans l2) (Nat.le_refl _), by simp -dsimp -implicitDefEqProofs only [go_sem] <;> omega⟩
   ·rw [w3, flat_next h3]
    refine OTs.append ((OTs.keep ho l2 hbl).frame fun b hb => hset (by have := (hbl.2 b hb).1; omega)) (o2.frame fun b hb => hset (by have := (bl2.2 b hb).1; omega))
   ·rw [hn_set]
    exact hbl.append bl2 (by omega) nn2
  ·repeat (first | rw [ko] | rw [kr] | simp -dsimp -implicitDefEqProofs only [go_sem, rq1, hks, e4, h2])
   have : k = zs.length := by omega
   subst this
   obtain ⟨q1, q2⟩ := OT.full hE hrow hcs ho hbl hlt
   exact ⟨hle, _, q1, q2⟩
def eCellS (zs : List LCell) : List T := [.l 2 (rCellS zs)]
theorem eCellS_def {zs : List LCell} : eCellS zs = [.l 2 (rCellS zs)] := rfl
attribute [go_sem] eCellS_def
def rCellSS (zs : List (List LCell)) : List (List T) := zs.map eCellS
theorem rCellSS_len {zs : List (List LCell)} : (rCellSS zs).length = zs.length := by simp [rCellSS]
theorem rCellSS_el {zs : List (List LCell)} {i : Nat} (hi : i < zs.length) : el (rCellSS zs) i = eCellS (zs.getD i default) := el_map hi
attribute [go_sem] rCellSS_len rCellSS_el
def szCellSS (zs : List (List LCell)) : Nat := zs.length + sumN szCellS zs
def fitCellSS (zs : List (List LCell)) : Prop := zs.length ≤ 9223372036854775807 ∧ ∀ x ∈ zs, fitCellS x
theorem szCellSS_pw {f : Adr} {zs : List (List LCell)} {left : Int} {h : H2} (hf : fitCellSS zs) (hl : 0 ≤ left ∧ left ≤ 1048576) : PW Tryz.prog W0 31 [.sl f 1 (rCellSS zs), .raw (.int .i64 left)] h (fun y => ∃ k : Int, y = .raw (.int .i64 k) ∧ (0 ≤ k → (szCellSS zs : Int) + k ≤ left)) := by
 obtain ⟨hf1, hf2⟩ := hf
 unfold szCellSS
 have hw : IntKind.i64.wrap (left - zs.length) = left - zs.length := by rw [wrap_i64] <;> omega
 refine PW.scalar ?_
 refine begins [[0, 1], [0, 1], [0, 1], [], [0, 1], [0, 1, 5], [0, 1, 5], [0, 1, 5], [0, 1, 5], [], [1]] Tryz.func31 rfl (rs := [.tmp 4]) rfl rfl ?_
 intro wf
 repeat (first | rw [ko] | rw [kr] | simp -dsimp -implicitDefEqProofs only [go_sem, rq1, hw])
 refine gz_dec (fun h1 => ?_) (fun h1 => ?_)
 ·repeat (first | rw [ko] | rw [kr] | simp -dsimp -implicitDefEqProofs only [go_sem])
  exact ⟨H2.le.refl _, ⟨_, rfl⟩, _, rfl, fun hh => by omega⟩
 ·repeat (first | rw [ko] | rw [kr] | simp -dsimp -implicitDefEqProofs only [go_sem, rq1])
  refine lz_keep [0] (fun m e h' => ∃ (k n : Nat) (x : Int), h' = h.up n ∧ hn h .mk ≤ n ∧ look e 5 .mk = .raw (.int .i64 k) ∧ look e 1 .mk = .raw (.int .i64 x) ∧ 0 ≤ x ∧ (zs.length : Int) + sumN szCellS (zs.take k) + x ≤ left ∧ m + k = zs.length) zs.length ?_ ?_
  ·exact ⟨0, hn h .mk, left - zs.length, up_self, Nat.le_refl _, zsm, zsm, by omega, by simp [sumN]; omega, by omega⟩
  ·rintro m e h' hks ⟨k, n, x, rfl, hnn, e5, e1, hx, hsum, hk⟩
   simp -dsimp -implicitDefEqProofs only [go_sem, rq1] at hks
   by_cases h2 : (k : Int) < (zs.length : Int)
   ·have h3 : k < zs.length := by omega
    have hst : sumN szCellS (zs.take (k + 1)) = sumN szCellS (zs.take k) + szCellS (zs.getD k default) := sumN_take (f := szCellS) h3
    repeat (first | rw [ko] | rw [kr] | simp -dsimp -implicitDefEqProofs only [go_sem, rq1, hks, e5, e1, h2, h3])
    refine pw_intro (szCellS_pw (hf2 _ (getD_mem h3)) ⟨by omega, by omega⟩) ?_
    rintro _ n2 hn2 ⟨x2, rfl, hx2⟩
    simp only [hn_up] at hn2
    repeat (first | rw [ko] | rw [kr] | simp -dsimp -implicitDefEqProofs only [go_sem, rq1])
    refine gz_dec (fun h4 => ?_) (fun h4 => ?_)
    ·repeat (first | rw [ko] | rw [kr] | simp -dsimp -implicitDefEqProofs only [go_sem])
     exact ⟨(by first | exact le_up (H2.le.refl _) (by omega) | exact le_up (le_up (H2.le.refl _) hnn) (by rw [hn_up]; omega)), ⟨_, rfl⟩, _, rfl, fun hh => by omega⟩
    ·repeat (first | rw [ko] | rw [kr] | simp -dsimp -implicitDefEqProofs only [go_sem, rq1, wrap_succ h3 hf1])
     exact nx_keep (m - 1) (by omega) zsm ⟨k + 1, n2, x2, up_up, by omega, zsm, zsm, by omega, by have := hx2 (by omega); omega, by omega⟩
   ·repeat (first | rw [ko] | rw [kr] | simp -dsimp -implicitDefEqProofs only [go_sem, rq1, hks, e5, e1, h2])
    refine ⟨le_up (H2.le.refl _) hnn, ⟨_, rfl⟩, x, rfl, fun _ => ?_⟩
    rw [List.take_of_length_le (by omega)] at hsum
    omega
theorem eqCellSS_pw {f f' : Adr} {zs : List (List LCell)} {h : H2} (hf : fitCellSS zs) : PW Tryz.prog W0 57 [.sl f 1 (rCellSS zs), .sl f' 1 (rCellSS zs)] h (fun y => y = .raw (.bool true)) := by
 obtain ⟨hf1, hf2⟩ := hf
 refine PW.scalar ?_
 refine begins [[0, 1], [0, 1], [], [0, 1], [0, 1, 5], [0, 1, 5], [0, 1, 5], [], []] Tryz.func57 rfl (rs := [.tmp 4]) rfl rfl ?_
 intro wf
 repeat (first | rw [ko] | rw [kr] | simp -dsimp -implicitDefEqProofs only [go_sem, rq1])
 refine lz_keep [0, 1] (fun m e h' => ∃ (k n : Nat), h' = h.up n ∧ hn h .mk ≤ n ∧ look e 5 .mk = .raw (.int .i64 k) ∧ m + k = zs.length) zs.length ?_ ?_
 ·exact ⟨0, hn h .mk, up_self, Nat.le_refl _, zsm, by omega⟩
 ·rintro m e h' hks ⟨k, n, rfl, hnn, e5, hk⟩
  simp -dsimp -implicitDefEqProofs only [go_sem, rq1] at hks
  by_cases h2 : (k : Int) < (zs.length : Int)
  ·have h3 : k < zs.length := by omega
   repeat (first | rw [ko] | rw [kr] | simp -dsimp -implicitDefEqProofs only [go_sem, rq1, hks, e5, h2])
   refine dq_intro [(0, []), (1, []), (2, []), (3, []), (4, []), (5, []), (6, []), (7, []), (8, []), (9, [])] (by kernel_rfl) ?_
   repeat (first | rw [ko] | rw [kr] | simp -dsimp -implicitDefEqProofs only [go_sem, rq1, h3])
   refine pw_intro (eqCellS_pw (hf2 _ (getD_mem h3))) ?_
   rintro _ n2 hn2 rfl
   simp only [hn_up] at hn2
   repeat (first | rw [ko] | rw [kr] | simp -dsimp -implicitDefEqProofs only [go_sem, rq1, wrap_succ h3 hf1])
   exact nx_keep (m - 1) (by omega) zsm ⟨k + 1, n2, up_up, by omega, zsm, by omega⟩
  ·repeat (first | rw [ko] | rw [kr] | simp -dsimp -implicitDefEqProofs only [go_sem, rq1, hks, e5, h2])
   exact ⟨le_up (H2.le.refl _) hnn, ⟨_, rfl⟩, rfl⟩
theorem toCellSS_new {f : Adr} {zs : List (List LCell)} {h : H2} (hs : szCellSS zs ≤ 1048576) : NewT Tryz.prog W0 44 [.sl f 1 (rCellSS zs)] h (.l 1 (rCellSS zs)) := by
 unfold szCellSS at hs
 have hE : ∀ a, (eCellS a).length = 1 := fun a => rfl
 refine begins [[0], [0], [0, 3], [0, 3, 4], [0, 3, 4], [0, 3, 4], [3]] Tryz.func44 rfl (rs := [.tmp 2]) rfl rfl ?_
 intro wf
 repeat (first | rw [ko] | rw [kr] | simp -dsimp -implicitDefEqProofs only [go_sem])
 refine make_intro Ai.ty_el46 Ai.ty_zr132 (by decide) ⟨by omega, by simp only [Int.toNat_natCast]; have : Ai.most = 1099511627776 := rfl; omega⟩ ?_
 repeat (first | rw [ko] | rw [kr] | simp -dsimp -implicitDefEqProofs only [go_sem, rq1])
 refine lz_keep [0, 3] (fun m e h' => ∃ (k : Nat) (cs : List X) (bs : List Nat), look e 4 .mk = .raw (.int .i64 k) ∧ m + k = zs.length ∧ hg h' (hn h .mk) .mk = some ⟨1, cs⟩ ∧ cs.length = zs.length * 1 ∧ OTs h' bs (cs.take (k * 1)) (((zs.take k).map eCellS).flatten) ∧ Bl (hn h .mk + 1) (hn h' .mk) bs ∧ h.le h' ∧ hn h .mk < hn h' .mk) zs.length ?_ ?_
 ·exact ⟨0, _, [], zsm, by omega, (by rw [hg_push, hoo]; rfl), by simp [rep_len], by simpa using OTs.nil, Bl.nil, le_push (H2.le.refl _), by rw [hn_push]; omega⟩
 ·rintro m e h' hks ⟨k, cs, bs, e4, hk, hrow, hcs, ho, hbl, hle, hlt⟩
  simp -dsimp -implicitDefEqProofs only [go_sem] at hks
  by_cases h2 : (k : Int) < (zs.length : Int)
  ·have h3 : k < zs.length := by omega
   have hsm : szCellS (zs.getD k default) ≤ sumN szCellS zs := sumN_mem (f := szCellS) (getD_mem h3)
   repeat (first | rw [ko] | rw [kr] | simp -dsimp -implicitDefEqProofs only [go_sem, rq1, hks, e4, h2, h3])
   refine wz_intro (toCellS_new (by omega)) ?_
   rintro y g2 ⟨l2, b2, o1, bl2⟩
   have hy1 := OT.okx o1
   have o2 := OTs.one o1
   have nn2 := l2.1
   have hyl : ([y]).length = 1 := (OTs.len o2).trans (hE _)
   have hyo := OTs.okx o2
   obtain ⟨w1, w2, w3⟩ := wrt_next hcs h3 hyl
   have row2 := (l2.2 (hn h .mk) hlt).trans hrow
   have hi2 : (0 : Int) ≤ (k : Int) ∧ (k : Int) < (zs.length : Int) := by omega
   rw [Nat.mul_one] at w1
   repeat (first | rw [ko] | rw [kr] | simp -dsimp -implicitDefEqProofs only [go_sem, rq1, row2, hi2, hyl, hyo, w1, hy1, wrap_succ h3 (by omega)])
   have hset : ∀ {b : Nat} {kk : OB}, b ≠ hn h .mk → (g2.set (hn h .mk) kk).get b = g2.get b := fun hb => by simp only [H2.set]; rw [if_neg hb]
   refine nx_keep (m - 1) (by omega) zsm ⟨k + 1, _, bs ++ b2, zsm, by omega, (by rw [hg_set, hoo]; rfl), (by rw [← Nat.mul_one k]; exact w2), ?_, ?_, le_set (hle.trans l2) (Nat.le_refl _), by simp -dsimp -implicitDefEqProofs only [go_sem] <;> omega⟩
   ·rw [show cs.take k = cs.take (k * 1) by rw [Nat.mul_one], show cs.drop (k + 1) = cs.drop (k * 1 + 1) by rw [Nat.mul_one]]; rw [w3, flat_next h3]
    refine OTs.append ((OTs.keep ho l2 hbl).frame fun b hb => hset (by have := (hbl.2 b hb).1; omega)) (o2.frame fun b hb => hset (by have := (bl2.2 b hb).1; omega))
   ·rw [hn_set]
    exact hbl.append bl2 (by omega) nn2
  ·repeat (first | rw [ko] | rw [kr] | simp -dsimp -implicitDefEqProofs only [go_sem, rq1, hks, e4, h2])
   have : k = zs.length := by omega
   subst this
   obtain ⟨q1, q2⟩ := OT.full hE hrow hcs ho hbl hlt
   exact ⟨hle, _, q1, q2⟩
structure LStore where
 refs : List Int
 pages : List (List LCell)
instance : Inhabited LStore := ⟨⟨default, default⟩⟩
def eStore (c : LStore) : List T := [.l 1 (ints c.refs), .l 1 (rCellSS c.pages)]
def xStore (F : Nat → Adr) (c : LStore) : List X := [.sl (F 0) 1 (ints c.refs), .sl (F 1) 1 (rCellSS c.pages)]
theorem xStore_def {F : Nat → Adr} {c : LStore} : xStore F c = [.sl (F 0) 1 (ints c.refs), .sl (F 1) 1 (rCellSS c.pages)] := rfl
def szStore (c : LStore) : Nat := c.refs.length + szCellSS c.pages
def fitStore (c : LStore) : Prop := c.refs.length ≤ 9223372036854775807 ∧ fitCellSS c.pages
attribute [go_sem] xStore_def
theorem invStore {g : H2} {bs : List Nat} {ys : List X} {c : LStore} (o : OTs g bs ys (eStore c)) : ∃ b0 s0 b1 s1, ys = [s0, s1] ∧ bs = b0 ++ b1 ∧ OT g b0 s0 (.l 1 (ints c.refs)) ∧ OT g b1 s1 (.l 1 (rCellSS c.pages)) := by
 unfold eStore at o
 obtain ⟨b0, bs0, s0, ys0, rfl, rfl, a0, o0⟩ := OTs.head o
 obtain ⟨b1, bs1, s1, ys1, rfl, rfl, a1, o1⟩ := OTs.head o0
 obtain ⟨rfl, rfl⟩ := OTs.tail0 o1
 exact ⟨_, _, _, _, rfl, by simp only [List.append_nil], a0, a1⟩
theorem outStore {g : H2} {c : LStore} {b0 b1 : List Nat} {s0 s1 : X} (a0 : OT g b0 s0 (.l 1 (ints c.refs))) (a1 : OT g b1 s1 (.l 1 (rCellSS c.pages))) : OTs g (b0 ++ b1) [s0, s1] (eStore c) := by
 have := OTs.cons a0 (OTs.cons a1 (OTs.nil))
 simpa only [eStore, List.append_nil, List.nil_append] using this
theorem szStore_ok {F : Nat → Adr} {c : LStore} {left : Int} {h : H2} (hf : fitStore c) (hl : 0 ≤ left ∧ left ≤ 1048576) : PW Tryz.prog W0 10 [.st (xStore F c), .raw (.int .i64 left)] h (fun y => ∃ k : Int, y = .raw (.int .i64 k) ∧ (0 ≤ k → (szStore c : Int) + k ≤ left)) := by
 unfold fitStore at hf
 refine PW.scalar ?_
 refine begins [[0, 1], [1, 2], [1, 2], [], [1, 2], [1], [], [1]] Tryz.func10 rfl (rs := [.tmp 4]) rfl rfl ?_
 intro wf
 repeat (first | rw [ko] | rw [kr] | simp -dsimp -implicitDefEqProofs only [go_sem, rq1])
 refine pw_intro (szIntS_pw  hf.1 ⟨by omega, by omega⟩) ?_
 rintro _ n0 hn0 ⟨k0, rfl, hk0⟩
 repeat (first | rw [ko] | rw [kr] | simp -dsimp -implicitDefEqProofs only [go_sem, rq1])
 refine gz_dec (fun q0 => ?_) (fun q0 => ?_)
 ·repeat (first | rw [ko] | rw [kr] | simp -dsimp -implicitDefEqProofs only [go_sem])
  exact ⟨zale, ⟨_, rfl⟩, _, rfl, fun hh => by omega⟩
 repeat (first | rw [ko] | rw [kr] | simp -dsimp -implicitDefEqProofs only [go_sem, rq1])
 refine pw_intro (szCellSS_pw  hf.2 ⟨by omega, by omega⟩) ?_
 rintro _ n1 hn1 ⟨k1, rfl, hk1⟩
 repeat (first | rw [ko] | rw [kr] | simp -dsimp -implicitDefEqProofs only [go_sem])
 refine gz_dec (fun q1 => ?_) (fun q1 => ?_)
 ·repeat (first | rw [ko] | rw [kr] | simp -dsimp -implicitDefEqProofs only [go_sem])
  exact ⟨zale, ⟨_, rfl⟩, _, rfl, fun hh => by omega⟩
 repeat (first | rw [ko] | rw [kr] | simp -dsimp -implicitDefEqProofs only [go_sem, rq1])
 exact ⟨zale, ⟨_, rfl⟩, _, rfl, fun hh => by unfold szStore; omega⟩
theorem eqStore_ok {F F' : Nat → Adr} {c : LStore} {h : H2} (hf : fitStore c) : PW Tryz.prog W0 23 [.st (xStore F c), .st (xStore F' c)] h (fun y => y = .raw (.bool true)) := by
 unfold fitStore at hf
 refine PW.scalar ?_
 refine begins [[0, 1], [2, 3], [], [2, 3], [], []] Tryz.func23 rfl (rs := [.tmp 4]) rfl rfl ?_
 intro wf
 repeat (first | rw [ko] | rw [kr] | simp -dsimp -implicitDefEqProofs only [go_sem])
 refine pw_intro (eqIntS_pw  hf.1) ?_
 rintro _ n0 hn0 rfl
 repeat (first | rw [ko] | rw [kr] | simp -dsimp -implicitDefEqProofs only [go_sem, rq1])
 refine pw_intro (eqCellSS_pw  hf.2) ?_
 rintro _ n1 hn1 rfl
 repeat (first | rw [ko] | rw [kr] | simp -dsimp -implicitDefEqProofs only [go_sem])
 exact ⟨zale, ⟨_, rfl⟩, rfl⟩
theorem toStore_ok {F : Nat → Adr} {c : LStore} {h : H2} (hs : szStore c ≤ 1048576) : NewS Tryz.prog W0 16 [.st (xStore F c)] h (eStore c) := by
 unfold szStore at hs
 refine begins [[0], [1, 2], [1, 2, 3], [1, 2, 3], [2, 3]] Tryz.func16 rfl (rs := [.cell 2 48]) rfl rfl ?_
 intro wf
 repeat (first | rw [ko] | rw [kr] | simp -dsimp -implicitDefEqProofs only [go_sem])
 refine wz_intro (toIntS_new  (by omega)) ?_
 rintro s0 g0 ⟨l0, b0, o0, bl0⟩
 have ce0 := OT.cell o0
 have n0 := l0.n
 have a00 := l0.2 (hn h .mk) (by simp only [hn_push]; omega)
 have a01 := l0.2 (hn h .mk + 1) (by simp only [hn_push]; omega)
 have a02 := l0.2 (hn h .mk + 1 + 1) (by simp only [hn_push]; omega)
 simp -dsimp -implicitDefEqProofs only [go_sem, hoo] at n0 a00 a01 a02
 have L0 : h.le g0 := H2.le.trans zale l0
 repeat (first | rw [ko] | rw [kr] | simp -dsimp -implicitDefEqProofs only [go_sem, rq1, a00, a02, ce0])
 refine wz_intro (toCellSS_new  (by omega)) ?_
 rintro s1 g1 ⟨l1, b1, o1, bl1⟩
 have ce1 := OT.cell o1
 have n1 := l1.n
 have a10 := l1.2 (hn h .mk) (by simp only [hn_set]; omega)
 have a11 := l1.2 (hn h .mk + 1) (by simp only [hn_set]; omega)
 have a12 := l1.2 (hn h .mk + 1 + 1) (by simp only [hn_set]; omega)
 simp -dsimp -implicitDefEqProofs only [go_sem, a00, a01, hoo] at n1 a10 a11 a12
 have L1 : h.le g1 := H2.le.trans zale l1
 repeat (first | rw [ko] | rw [kr] | simp -dsimp -implicitDefEqProofs only [go_sem, rq1, rq2, a11, a12, ce0, ce1])
 refine ⟨zale, _, b0 ++ b1, rfl, outStore (c := c) ?_ ?_, ?_⟩
 ·refine OT.frame o0 fun b hb => ?_
  have hbl := bl0.2 b (hb)
  simp only [hn_push] at hbl
  simp only [H2.set]
  rw [if_neg (by omega), if_neg (by omega)]
  rw [show g1.get b = _ from l1.2 b (by simp only [hn_set]; omega)]
  simp only [hg, H2.set]
  rw [if_neg (by omega)]
 ·refine OT.frame o1 fun b hb => ?_
  have hbl := bl1.2 b (hb)
  simp only [hn_set] at hbl
  simp only [H2.set]
  rw [if_neg (by omega), if_neg (by omega)]
 ·simp only [hn_set]
  have m0 := bl0
  simp only [hn_push] at m0
  have m1 := bl1
  simp only [hn_set] at m1
  have := ((Bl.append m0 m1 (by omega) (by omega))).wide (N' := hn h .mk) (by omega) (Nat.le_refl _)
  simpa only [List.append_assoc] using this
end Go.Bi
end
section
set_option maxRecDepth 20000
namespace Go.Bi
open Go.Proofs
open Go.Ai (wrap_i64 wrap_u8 Heap)
variable {W0 : World} {P : Program}
set_option maxHeartbeats 4000000
def poolB (r : List Int) : Bool := decide ((r.length : Int) ≤ 16) && allI r 0 20
def pageB (s : LStore) (i : Nat) : Bool := decide (((s.pages.getD i default).length : Int) ≤ 4) && !(decide (s.refs.getD i default = 0) && decide (((s.pages.getD i default).length : Int) > 0))
def storeB (s : LStore) : Bool := poolB s.refs && (decide ((s.pages.length : Int) = s.refs.length) && (List.range s.pages.length).all (pageB s))
theorem implPool_ok {f : Adr} {r : List Int} {g : H2} (hr : r.length ≤ 1048576) : PW Tryz.prog W0 131 [.sl f 1 (ints r)] g (fun y => y = .raw (.bool (poolB r))) := by
 refine PW.scalar ?_
 refine begins [[0], [0]] Tryz.func131 rfl (rs := [.tmp 2]) rfl rfl ?_
 intro wf
 by_cases h1 : (r.length : Int) ≤ 16
 ·have d1 : decide ((r.length : Int) ≤ 16) = true := decide_eq_true h1
  repeat (first | rw [ko] | rw [kr] | simp -dsimp -implicitDefEqProofs only [go_sem, rq1, d1])
  refine pw_intro (allIn_ok (by omega)) ?_
  rintro _ n1 hn1 rfl
  repeat (first | rw [ko] | rw [kr] | simp -dsimp -implicitDefEqProofs only [go_sem])
  exact ⟨le_up (H2.le.refl _) hn1, ⟨_, rfl⟩, by rw [poolB, d1]; rfl⟩
 ·have d1 : decide ((r.length : Int) ≤ 16) = false := decide_eq_false h1
  repeat (first | rw [ko] | rw [kr] | simp -dsimp -implicitDefEqProofs only [go_sem, d1])
  exact ⟨H2.le.refl _, ⟨_, rfl⟩, by rw [poolB, d1]; rfl⟩
theorem specPool_ok {f : Adr} {r : List Int} {g : H2} (hr : r.length ≤ 1048576) : PW Tryz.prog W0 92 [.sl f 1 (ints r)] g (fun y => y = .raw (.bool (poolB r))) := by
 refine PW.scalar ?_
 refine begins [[0], [0]] Tryz.func92 rfl (rs := [.tmp 2]) rfl rfl ?_
 intro wf
 by_cases h1 : (r.length : Int) ≤ 16
 ·have d1 : decide ((r.length : Int) ≤ 16) = true := decide_eq_true h1
  repeat (first | rw [ko] | rw [kr] | simp -dsimp -implicitDefEqProofs only [go_sem, rq1, d1])
  refine pw_intro (l05All_ok (by omega)) ?_
  rintro _ n1 hn1 rfl
  repeat (first | rw [ko] | rw [kr] | simp -dsimp -implicitDefEqProofs only [go_sem])
  exact ⟨le_up (H2.le.refl _) hn1, ⟨_, rfl⟩, by rw [poolB, d1]; rfl⟩
 ·have d1 : decide ((r.length : Int) ≤ 16) = false := decide_eq_false h1
  repeat (first | rw [ko] | rw [kr] | simp -dsimp -implicitDefEqProofs only [go_sem, d1])
  exact ⟨H2.le.refl _, ⟨_, rfl⟩, by rw [poolB, d1]; rfl⟩
theorem implStore_ok {F : Nat → Adr} {s : LStore} {g : H2} (hr : s.refs.length ≤ 1048576) : PW Tryz.prog W0 104 [.st (xStore F s)] g (fun y => y = .raw (.bool (storeB s))) := by
 refine PW.scalar ?_
 refine begins [[0], [1], [], [1], [1, 19, 20, 21], [1, 19, 20, 21], [1, 3, 4, 19, 20, 21], [], [1, 19, 20, 21], []] Tryz.func104 rfl (rs := [.tmp 2]) rfl rfl ?_
 intro wf
 repeat (first | rw [ko] | rw [kr] | simp -dsimp -implicitDefEqProofs only [go_sem, hoo])
 refine pw_intro (implPool_ok hr) ?_
 rintro _ n1 hn1 rfl
 simp only [hn_push] at hn1
 have L1 : ∀ k : OB, g.le ((g.push k).up n1) := fun k => le_up (le_push (H2.le.refl _)) (by rw [hn_push]; exact hn1)
 cases h1 : poolB s.refs
 ·repeat (first | rw [ko] | rw [kr] | simp -dsimp -implicitDefEqProofs only [go_sem, rq1, hoo])
  exact ⟨L1 _, ⟨_, rfl⟩, by rw [storeB, h1]; rfl⟩
 by_cases h2 : (s.pages.length : Int) = s.refs.length
 rotate_left
 ·have e2 : decide (¬ (s.pages.length : Int) = s.refs.length) = true := decide_eq_true h2
  repeat (first | rw [ko] | rw [kr] | simp -dsimp -implicitDefEqProofs only [go_sem, rq1, hoo, e2])
  exact ⟨L1 _, ⟨_, rfl⟩, by rw [storeB, h1, decide_eq_false h2]; rfl⟩
 have e2 : decide (¬ (s.pages.length : Int) = s.refs.length) = false := decide_eq_false (fun h => h h2)
 have hB : storeB s = (List.range s.pages.length).all (pageB s) := by rw [storeB, h1, decide_eq_true h2]; rfl
 repeat (first | rw [ko] | rw [kr] | simp -dsimp -implicitDefEqProofs only [go_sem, rq1, hoo, e2])
 refine lz_keep [1, 19, 20] (fun mm e h' => ∃ (i : Nat), g.le h' ∧ hg h' (hn g .mk) .mk = some ⟨2, [.sl (F 0) 1 (ints s.refs), .sl (F 1) 1 (rCellSS s.pages)]⟩ ∧ look e 21 .mk = .raw (.int .i64 (i : Nat)) ∧ mm + i = s.pages.length ∧ ∀ j, j < i → pageB s j = true) s.pages.length ?_ ?_
 ·exact ⟨0, L1 _, by simp -dsimp -implicitDefEqProofs only [go_sem, hoo], zsm, by omega, fun j hj => by omega⟩
 rintro mm e h' hks ⟨i, hle, row, ei, hm, hpre⟩
 simp -dsimp -implicitDefEqProofs only [go_sem, rq1] at hks
 by_cases q1 : (i : Int) < (s.pages.length : Int)
 ·have q2 : i < s.pages.length := by omega
  have q3 : i < s.refs.length := by omega
  have w1 := zwrs i (by omega)
  by_cases p1 : ((s.pages.getD i default).length : Int) > 4
  ·repeat (first | rw [ko] | rw [kr] | simp -dsimp -implicitDefEqProofs only [go_sem, rq1, hks, ei, q1, q2, p1])
   exact ⟨hle, ⟨_, rfl⟩, by rw [hB, range_bad q2 (by rw [pageB, decide_eq_false (show ¬ ((s.pages.getD i default).length : Int) ≤ 4 by omega)]; rfl)]⟩
  have p1' : ((s.pages.getD i default).length : Int) ≤ 4 := by omega
  by_cases p2 : s.refs.getD i default = 0
  ·have d2 : decide (s.refs.getD i default = 0) = true := decide_eq_true p2
   by_cases p3 : ((s.pages.getD i default).length : Int) > 0
   ·have d3 : decide (((s.pages.getD i default).length : Int) > 0) = true := decide_eq_true p3
    repeat (first | rw [ko] | rw [kr] | simp -dsimp -implicitDefEqProofs only [go_sem, rq1, hks, ei, q1, q2, q3, p1, d2, p3, row])
    exact ⟨hle, ⟨_, rfl⟩, by rw [hB, range_bad q2 (by rw [pageB, decide_eq_true p1', d2, d3]; rfl)]⟩
   ·have d3 : decide (((s.pages.getD i default).length : Int) > 0) = false := decide_eq_false p3
    repeat (first | rw [ko] | rw [kr] | simp -dsimp -implicitDefEqProofs only [go_sem, rq1, hks, ei, q1, q2, q3, p1, d2, p3, row, w1])
    refine nx_keep (mm - 1) (by omega) zsm ⟨i + 1, hle, row, zsm, by omega, fun j hj => ?_⟩
    by_cases hji : j = i
    ·subst hji; rw [pageB, decide_eq_true p1', d2, d3]; rfl
    ·exact hpre j (by omega)
  ·have d2 : decide (s.refs.getD i default = 0) = false := decide_eq_false p2
   repeat (first | rw [ko] | rw [kr] | simp -dsimp -implicitDefEqProofs only [go_sem, rq1, hks, ei, q1, q2, q3, p1, d2, row, w1])
   refine nx_keep (mm - 1) (by omega) zsm ⟨i + 1, hle, row, zsm, by omega, fun j hj => ?_⟩
   by_cases hji : j = i
   ·subst hji; rw [pageB, decide_eq_true p1', d2]; rfl
   ·exact hpre j (by omega)
 ·repeat (first | rw [ko] | rw [kr] | simp -dsimp -implicitDefEqProofs only [go_sem, hks, ei, q1])
  exact ⟨hle, ⟨_, rfl⟩, by rw [hB, range_all fun j hj => hpre j (by omega)]⟩
theorem specStore_ok {F : Nat → Adr} {s : LStore} {g : H2} (hr : s.refs.length ≤ 1048576) : PW Tryz.prog W0 64 [.st (xStore F s)] g (fun y => y = .raw (.bool (storeB s))) := by
 refine PW.scalar ?_
 refine begins [[0], [1], [], [1], [1, 3], [1, 3], [1, 3], [], []] Tryz.func64 rfl (rs := [.tmp 2]) rfl rfl ?_
 intro wf
 repeat (first | rw [ko] | rw [kr] | simp -dsimp -implicitDefEqProofs only [go_sem, hoo])
 refine pw_intro (specPool_ok hr) ?_
 rintro _ n1 hn1 rfl
 simp only [hn_push] at hn1
 have L1 : ∀ k : OB, g.le ((g.push k).up n1) := fun k => le_up (le_push (H2.le.refl _)) (by rw [hn_push]; exact hn1)
 cases h1 : poolB s.refs
 ·repeat (first | rw [ko] | rw [kr] | simp -dsimp -implicitDefEqProofs only [go_sem, rq1, hoo])
  exact ⟨L1 _, ⟨_, rfl⟩, by rw [storeB, h1]; rfl⟩
 by_cases h2 : (s.pages.length : Int) = s.refs.length
 rotate_left
 ·have e2 : decide (¬ (s.pages.length : Int) = s.refs.length) = true := decide_eq_true h2
  repeat (first | rw [ko] | rw [kr] | simp -dsimp -implicitDefEqProofs only [go_sem, rq1, hoo, e2])
  exact ⟨L1 _, ⟨_, rfl⟩, by rw [storeB, h1, decide_eq_false h2]; rfl⟩
 have e2 : decide (¬ (s.pages.length : Int) = s.refs.length) = false := decide_eq_false (fun h => h h2)
 have hB : storeB s = (List.range s.pages.length).all (pageB s) := by rw [storeB, h1, decide_eq_true h2]; rfl
 repeat (first | rw [ko] | rw [kr] | simp -dsimp -implicitDefEqProofs only [go_sem, rq1, hoo, e2])
 refine lz_keep [1] (fun mm e h' => ∃ (i : Nat), g.le h' ∧ hg h' (hn g .mk) .mk = some ⟨2, [.sl (F 0) 1 (ints s.refs), .sl (F 1) 1 (rCellSS s.pages)]⟩ ∧ look e 3 .mk = .raw (.int .i64 (i : Nat)) ∧ mm + i = s.pages.length ∧ ∀ j, j < i → pageB s j = true) s.pages.length ?_ ?_
 ·exact ⟨0, L1 _, by simp -dsimp -implicitDefEqProofs only [go_sem, hoo], zsm, by omega, fun j hj => by omega⟩
 rintro mm e h' hks ⟨i, hle, row, ei, hm, hpre⟩
 simp -dsimp -implicitDefEqProofs only [go_sem] at hks
 by_cases q1 : (i : Int) < (s.pages.length : Int)
 ·have q2 : i < s.pages.length := by omega
  have q3 : i < s.refs.length := by omega
  have w1 := zwrs i (by omega)
  by_cases p1 : ((s.pages.getD i default).length : Int) > 4
  ·repeat (first | rw [ko] | rw [kr] | simp -dsimp -implicitDefEqProofs only [go_sem, rq1, hks, ei, q1, q2, p1, row])
   exact ⟨hle, ⟨_, rfl⟩, by rw [hB, range_bad q2 (by rw [pageB, decide_eq_false (show ¬ ((s.pages.getD i default).length : Int) ≤ 4 by omega)]; rfl)]⟩
  have p1' : ((s.pages.getD i default).length : Int) ≤ 4 := by omega
  by_cases p2 : s.refs.getD i default = 0
  ·have d2 : decide (s.refs.getD i default = 0) = true := decide_eq_true p2
   by_cases p3 : ((s.pages.getD i default).length : Int) > 0
   ·have d3 : decide (((s.pages.getD i default).length : Int) > 0) = true := decide_eq_true p3
    repeat (first | rw [ko] | rw [kr] | simp -dsimp -implicitDefEqProofs only [go_sem, rq1, hks, ei, q1, q2, q3, p1, d2, p3, row])
    exact ⟨hle, ⟨_, rfl⟩, by rw [hB, range_bad q2 (by rw [pageB, decide_eq_true p1', d2, d3]; rfl)]⟩
   ·have d3 : decide (((s.pages.getD i default).length : Int) > 0) = false := decide_eq_false p3
    repeat (first | rw [ko] | rw [kr] | simp -dsimp -implicitDefEqProofs only [go_sem, rq1, hks, ei, q1, q2, q3, p1, d2, p3, row, w1])
    refine nx_keep (mm - 1) (by omega) zsm ⟨i + 1, hle, row, zsm, by omega, fun j hj => ?_⟩
    by_cases hji : j = i
    ·subst hji; rw [pageB, decide_eq_true p1', d2, d3]; rfl
    ·exact hpre j (by omega)
  ·have d2 : decide (s.refs.getD i default = 0) = false := decide_eq_false p2
   repeat (first | rw [ko] | rw [kr] | simp -dsimp -implicitDefEqProofs only [go_sem, rq1, hks, ei, q1, q2, q3, p1, d2, row, w1])
   refine nx_keep (mm - 1) (by omega) zsm ⟨i + 1, hle, row, zsm, by omega, fun j hj => ?_⟩
   by_cases hji : j = i
   ·subst hji; rw [pageB, decide_eq_true p1', d2]; rfl
   ·exact hpre j (by omega)
 ·repeat (first | rw [ko] | rw [kr] | simp -dsimp -implicitDefEqProofs only [go_sem, rq1, hks, ei, q1, row])
  exact ⟨hle, ⟨_, rfl⟩, by rw [hB, range_all fun j hj => hpre j (by omega)]⟩
end Go.Bi
end
section
set_option maxRecDepth 20000
namespace Go.Bi
open Go.Proofs
open Go.Ai (wrap_i64 wrap_u8 Heap)
variable {W0 : World} {P : Program}
set_option maxHeartbeats 4000000
def partB (p : LPart) : Bool := inI p.shift 0 4 && (inI p.values.length 1 8 && allI p.values (-15) 15)
theorem append_i3 {D : Nat → Option (List Nat)} {g : H2} {K : KT} {t u U y N : Nat} {xs : List Int} {x : X} {f : Adr} {s : Int} (he : Go.Ai.elt? P t = some (U, 1, y)) (hz : Go.Ai.zr? P U = some [.int .i64 0]) (hu : Go.Ai.cls? P u = some .sl)
  (hx : OwnI N g x xs) (hN0 : N ≤ hn g .mk) (hn0 : (xs.length + 1) * (y + 1) ≤ Go.Ai.most)
  (hk : ∀ v' g', OwnI N g' v' (xs ++ [s]) → hn g .mk ≤ hn g' .mk → (∀ g0 : H2, hn g0 .mk ≤ N → g0.le g → g0.le g') → (∀ c, c < hn g .mk → blockOf x ≠ some c → hg g' c .mk = hg g c .mk) → kz K v' g' .mk) :
  az (biz P g .append [t, u] [x, .sl f 1 [[.v (.int .i64 s)]]] .mk) K .mk := by
 refine append_own (z := 0) (m := 1) (news := [cI s]) (N := N) he hz rfl hu hx hN0 rfl rfl rfl hn0 ?_
 intro v' g' o
 refine hk v' g' ?_
 unfold OwnI
 rw [List.map_append, List.length_append]
 exact o
theorem clampA_ok {x : Int} {g : H2} : WC2 Tryz.prog W0 203 [.raw (.int .i64 x), .raw (.int .i64 127)] g (fun v g' => (∃ r, v = .raw (.int .i64 r)) ∧ g' = g) := by
 refine begins [[0, 1], [0, 1], [], [0, 1]] Tryz.func203 rfl (rs := [.tmp 4]) rfl rfl ?_
 intro wf
 have h0 : ¬ ((127 : Int) < 0) := by decide
 repeat (first | rw [ko] | rw [kr] | simp -dsimp -implicitDefEqProofs only [go_sem, rq1, h0])
 exact ⟨⟨_, rfl⟩, rfl⟩
theorem implPut_ok {F : Nat → Adr} {p : LPart} {g : H2} (hs : p.values.length ≤ 1048576) : WC2 Tryz.prog W0 202 [.st (xPart F p)] g (fun x g' => g.le g' ∧ ∃ v, x = .tp [v, .raw (.bool (partB p))] ∧ isTpX v = false) := by
 refine begins [[0], [1], [], [1], [1, 4], [1, 4, 26, 27, 28], [1, 4, 26, 27, 28], [1, 4, 6, 26, 27, 28], [1, 4, 26, 27, 28], [4]] Tryz.func202 rfl (rs := [.tmp 2, .tmp 3]) rfl rfl ?_
 intro wf
 repeat (first | rw [ko] | rw [kr] | simp -dsimp -implicitDefEqProofs only [go_sem, hoo])
 refine wz_intro in_ok ?_
 rintro _ _ ⟨rfl, rfl⟩
 cases h1 : inI p.shift 0 4
 ·repeat (first | rw [ko] | rw [kr] | simp -dsimp -implicitDefEqProofs only [go_sem, rq1, hoo])
  exact ⟨le_push (H2.le.refl _), _, by rw [partB, h1]; rfl, rfl⟩
 repeat (first | rw [ko] | rw [kr] | simp -dsimp -implicitDefEqProofs only [go_sem, rq1, hoo])
 refine wz_intro in_ok ?_
 rintro _ _ ⟨rfl, rfl⟩
 cases h2 : inI p.values.length 1 8
 ·repeat (first | rw [ko] | rw [kr] | simp -dsimp -implicitDefEqProofs only [go_sem, rq1, hoo])
  exact ⟨le_push (H2.le.refl _), _, by rw [partB, h1, h2]; rfl, rfl⟩
 repeat (first | rw [ko] | rw [kr] | simp -dsimp -implicitDefEqProofs only [go_sem, rq1, hoo])
 refine pw_intro (allIn_ok (by omega)) ?_
 rintro _ n1 hn1 rfl
 rw [hn_push] at hn1
 have L1 : ∀ k : OB, g.le ((g.push k).up n1) := fun k => le_up (le_push (H2.le.refl _)) (by rw [hn_push]; exact hn1)
 cases h3 : allI p.values (-15) 15
 ·repeat (first | rw [ko] | rw [kr] | simp -dsimp -implicitDefEqProofs only [go_sem, hoo])
  exact ⟨L1 _, _, by rw [partB, h1, h2, h3]; rfl, rfl⟩
 have hne : (hn g .mk == n1) = false := zne
 repeat (first | rw [ko] | rw [kr] | simp -dsimp -implicitDefEqProofs only [go_sem, rq1, rq3, hoo, hne])
 have hB : partB p = true := by rw [partB, h1, h2, h3]; rfl
 have hsh := inI_tt h1
 refine lz_keep [1, 26, 27] (fun m e h' => ∃ (i : Nat) (zs : List Int) (v : X), look e 28 .mk = .raw (.int .i64 (i : Nat)) ∧ look e 4 .mk = v ∧ m + i = p.values.length ∧ zs.length = i ∧ OwnI n1 h' v zs ∧ g.le h' ∧ n1 ≤ hn h' .mk ∧ hg h' (hn g .mk) .mk = some ⟨2, [.raw (.int .i64 p.shift), .sl (F 1) 1 (ints p.values)]⟩) p.values.length ?_ ?_
 ·refine ⟨0, [], _, zsm, by simp -dsimp -implicitDefEqProofs only [go_sem, rq1] <;> rfl, by omega, rfl, Own.new (by rw [hn_up]; exact Nat.le_refl _) rfl, le_push (L1 _), by simp only [hn_push, hn_up]; omega, ?_⟩
  simp -dsimp -implicitDefEqProofs only [go_sem, hne, hoo]
 rintro m e h' hks ⟨i, zs, v, e28, e4, hm, hz, ow, hle, hn0, row⟩
 simp -dsimp -implicitDefEqProofs only [go_sem, rq1] at hks
 by_cases q1 : (i : Int) < (p.values.length : Int)
 ·have q2 : i < p.values.length := by omega
  have w1 := zwrs i (by omega)
  have hsh0 := hsh.1
  repeat (first | rw [ko] | rw [kr] | simp -dsimp -implicitDefEqProofs only [go_sem, rq1, hks, e28, e4, q1, q2, row, hsh0])
  refine wz_intro clampA_ok ?_
  rintro _ _ ⟨⟨r, rfl⟩, rfl⟩
  repeat (first | rw [ko] | rw [kr] | simp -dsimp -implicitDefEqProofs only [go_sem, rq1, rq3])
  have h8 := inI_tt h2
  refine append_i3 (P := Tryz.prog) (D := fun _ => none) (N := n1) Go.Ai.ty_el25 Go.Ai.ty_zr3 Go.Ai.ty_cl25 (Own.keep ow (le_up (H2.le.refl _) (Nat.le_succ _))) (by rw [hn_up]; omega) (by have : Go.Ai.most = 1099511627776 := rfl; omega) ?_
  intro v4 g4 ow4 nn4 le4 on4
  rw [hn_up] at nn4
  have row4 : hg g4 (hn g .mk) .mk = _ := (on4 (hn g .mk) (by rw [hn_up]; omega) (fun e => by
   obtain ⟨_, h⟩ := ow
   rcases h with ⟨rfl, _⟩ | ⟨q, rfl, a1, _⟩
   ·cases e
   ·simp only [blockOf, Option.some.injEq] at e; omega)).trans row
  repeat (first | rw [ko] | rw [kr] | simp -dsimp -implicitDefEqProofs only [go_sem, rq1, w1])
  exact nx_keep (m - 1) (by omega) zsm ⟨i + 1, _, v4, zsm, zsm, by omega, by simp [hz], ow4, le4 g (by omega) (le_up hle (Nat.le_succ _)), by omega, row4⟩
 ·have c0 := ownI_cell ow
  have c1 := c0.2.2
  repeat (first | rw [ko] | rw [kr] | simp -dsimp -implicitDefEqProofs only [go_sem, rq1, hks, e28, e4, q1, c1])
  exact ⟨hle, _, by rw [hB], c1⟩
theorem implPart_ok {F : Nat → Adr} {p : LPart} {n : Int} {g : H2} (hs : p.values.length ≤ 1048576) : PW Tryz.prog W0 198 [.st (xPart F p), .raw (.int .i64 n)] g (fun y => y = .raw (.bool (partB p && decide ((p.values.length : Int) = n)))) := by
 refine PW.scalar ?_
 refine begins [[0, 1], [1, 2], [1, 2, 6]] Tryz.func198 rfl (rs := [.tmp 4]) rfl rfl ?_
 intro wf
 repeat (first | rw [ko] | rw [kr] | simp -dsimp -implicitDefEqProofs only [go_sem, hoo])
 refine wz_intro (implPut_ok (F := F) hs) ?_
 rintro _ g1 ⟨l1, v, rfl, c1⟩
 have row : hg g1 (hn g .mk) .mk = some ⟨2, [.raw (.int .i64 p.shift), .sl (F 1) 1 (ints p.values)]⟩ := (l1.2 (hn g .mk) (by rw [hn_push]; omega)).trans (by simp -dsimp -implicitDefEqProofs only [go_sem, hoo])
 have L1 : g.le g1 := H2.le.trans (le_push (H2.le.refl _)) l1
 cases h1 : partB p
 ·repeat (first | rw [ko] | rw [kr] | simp -dsimp -implicitDefEqProofs only [go_sem, rq1])
  exact ⟨L1, ⟨_, rfl⟩, rfl⟩
 ·repeat (first | rw [ko] | rw [kr] | simp -dsimp -implicitDefEqProofs only [go_sem, rq1, row])
  exact ⟨L1, ⟨_, rfl⟩, rfl⟩
end Go.Bi
end
section
set_option maxRecDepth 20000
namespace Go.Bi
open Go.Proofs
open Go.Ai (wrap_i64 wrap_u8 Heap)
variable {W0 : World} {P : Program}
set_option maxHeartbeats 4000000
theorem powA_ok {n : Nat} {g : H2} (hn0 : n ≤ 1048576) : WC2 Tryz.prog W0 200 [.raw (.int .i64 n)] g (fun v g' => (∃ r, v = .raw (.int .i64 r)) ∧ g' = g) := by
 refine begins [[0], [0], [0, 3], [0, 3, 4], [0, 3, 4], [0, 3, 4], [3]] Tryz.func200 rfl (rs := [.tmp 2]) rfl rfl ?_
 intro wf
 repeat (first | rw [ko] | rw [kr] | simp -dsimp -implicitDefEqProofs only [go_sem])
 refine lz_keep [0] (fun m e h' => ∃ (i : Nat) (x : Int), h' = g ∧ look e 4 .mk = .raw (.int .i64 (i : Nat)) ∧ look e 3 .mk = .raw (.int .i64 x) ∧ m + i = n) n ?_ ?_
 ·exact ⟨0, _, rfl, zsm, by simp -dsimp -implicitDefEqProofs only [go_sem] <;> rfl, by omega⟩
 rintro m e h' hks ⟨i, x, rfl, e4, e3, hm⟩
 simp -dsimp -implicitDefEqProofs only [go_sem] at hks
 by_cases q1 : (i : Int) < (n : Int)
 ·have w1 := zwrs i (by omega)
  repeat (first | rw [ko] | rw [kr] | simp -dsimp -implicitDefEqProofs only [go_sem, rq1, hks, e4, e3, q1, w1])
  exact nx_keep (m - 1) (by omega) zsm ⟨i + 1, _, rfl, zsm, by simp -dsimp -implicitDefEqProofs only [go_sem, rq1] <;> rfl, by omega⟩
 ·repeat (first | rw [ko] | rw [kr] | simp -dsimp -implicitDefEqProofs only [go_sem, rq1, hks, e4, e3, q1])
  exact ⟨⟨_, rfl⟩, rfl⟩
theorem powB_ok {s : Int} {g : H2} (h0 : 0 ≤ s) (h1 : s ≤ 1048576) : WC2 Tryz.prog W0 200 [.raw (.int .i64 s)] g (fun v g' => (∃ r, v = .raw (.int .i64 r)) ∧ g' = g) := by
 obtain ⟨n, rfl⟩ := Int.eq_ofNat_of_zero_le h0
 exact powA_ok (by omega)
theorem clampB_ok {x : Int} {g : H2} : WC2 Tryz.prog W0 199 [.raw (.int .i64 x), .raw (.int .i64 127)] g (fun v g' => (∃ r, v = .raw (.int .i64 r)) ∧ g' = g) := by
 refine begins [[0, 1], [0, 1], [1], [0, 1], [1], [0]] Tryz.func199 rfl (rs := [.tmp 4]) rfl rfl ?_
 intro wf
 repeat (first | rw [ko] | rw [kr] | simp -dsimp -implicitDefEqProofs only [go_sem])
 refine gz_dec (fun h1 => ?_) (fun h1 => ?_)
 ·repeat (first | rw [ko] | rw [kr] | simp -dsimp -implicitDefEqProofs only [go_sem, rq1])
  exact ⟨⟨_, rfl⟩, rfl⟩
 repeat (first | rw [ko] | rw [kr] | simp -dsimp -implicitDefEqProofs only [go_sem, rq1])
 refine gz_dec (fun h2 => ?_) (fun h2 => ?_)
 ·repeat (first | rw [ko] | rw [kr] | simp -dsimp -implicitDefEqProofs only [go_sem, rq1])
  exact ⟨⟨_, rfl⟩, rfl⟩
 ·repeat (first | rw [ko] | rw [kr] | simp -dsimp -implicitDefEqProofs only [go_sem, rq1])
  exact ⟨⟨_, rfl⟩, rfl⟩
theorem specPut_ok {F : Nat → Adr} {p : LPart} {g : H2} (hs : p.values.length ≤ 1048576) : WC2 Tryz.prog W0 194 [.st (xPart F p)] g (fun x g' => g.le g' ∧ ∃ v, x = .tp [v, .raw (.bool (partB p))] ∧ isTpX v = false) := by
 refine begins [[0], [1], [1, 4], [4], [1, 4], [1, 4, 5], [1, 4, 5], [1, 4, 5], [4]] Tryz.func194 rfl (rs := [.tmp 2, .tmp 3]) rfl rfl ?_
 intro wf
 have hne : (hn g .mk == hn g .mk + 1) = false := by simp
 repeat (first | rw [ko] | rw [kr] | simp -dsimp -implicitDefEqProofs only [go_sem, rq1, rq3, hoo, hne])
 refine wz_intro l01In_ok ?_
 rintro _ _ ⟨rfl, rfl⟩
 have L0 : ∀ k k' : OB, g.le ((g.push k).push k') := fun k k' => le_push (le_push (H2.le.refl _))
 cases h1 : inI p.shift 0 4
 ·repeat (first | rw [ko] | rw [kr] | simp -dsimp -implicitDefEqProofs only [go_sem, rq1, hoo])
  exact ⟨L0 _ _, _, by rw [partB, h1]; rfl, rfl⟩
 repeat (first | rw [ko] | rw [kr] | simp -dsimp -implicitDefEqProofs only [go_sem, rq1, hoo, hne])
 refine wz_intro l01In_ok ?_
 rintro _ _ ⟨rfl, rfl⟩
 cases h2 : inI p.values.length 1 8
 ·repeat (first | rw [ko] | rw [kr] | simp -dsimp -implicitDefEqProofs only [go_sem, rq1, hoo])
  exact ⟨L0 _ _, _, by rw [partB, h1, h2]; rfl, rfl⟩
 repeat (first | rw [ko] | rw [kr] | simp -dsimp -implicitDefEqProofs only [go_sem, rq1, hoo, hne])
 refine pw_intro (l05All_ok (by omega)) ?_
 rintro _ n1 hn1 rfl
 simp only [hn_push] at hn1
 have L1 : ∀ k k' : OB, g.le (((g.push k).push k').up n1) := fun k k' => le_up (L0 k k') (by simp only [hn_push]; exact hn1)
 cases h3 : allI p.values (-15) 15
 ·repeat (first | rw [ko] | rw [kr] | simp -dsimp -implicitDefEqProofs only [go_sem, rq1, hoo])
  exact ⟨L1 _ _, _, by rw [partB, h1, h2, h3]; rfl, rfl⟩
 repeat (first | rw [ko] | rw [kr] | simp -dsimp -implicitDefEqProofs only [go_sem, rq1, hoo])
 have hB : partB p = true := by rw [partB, h1, h2, h3]; rfl
 have hsh := inI_tt h1
 have h8 := inI_tt h2
 refine lz_keep [1] (fun m e h' => ∃ (i : Nat) (zs : List Int) (v : X), look e 5 .mk = .raw (.int .i64 (i : Nat)) ∧ look e 4 .mk = v ∧ m + i = p.values.length ∧ zs.length = i ∧ OwnI (hn g .mk + 1) h' v zs ∧ g.le h' ∧ hn g .mk + 1 ≤ hn h' .mk ∧ hg h' (hn g .mk) .mk = some ⟨2, [.raw (.int .i64 p.shift), .sl (F 1) 1 (ints p.values)]⟩) p.values.length ?_ ?_
 ·refine ⟨0, [], _, zsm, by simp -dsimp -implicitDefEqProofs only [go_sem] <;> rfl, by omega, rfl, ?_, L1 _ _, by simp only [hn_up]; omega, by simp -dsimp -implicitDefEqProofs only [go_sem, hne, hoo]⟩
  exact Own.keep (Own.new (g := g.push _) (by rw [hn_push]; exact Nat.le_refl _) rfl) (le_up (H2.le.refl _) (by simp only [hn_push]; omega))
 rintro m e h' hks ⟨i, zs, v, e5, e4, hm, hz, ow, hle, hn0, row⟩
 simp -dsimp -implicitDefEqProofs only [go_sem] at hks
 by_cases q1 : (i : Int) < (p.values.length : Int)
 ·have q2 : i < p.values.length := by omega
  have w1 := zwrs i (by omega)
  repeat (first | rw [ko] | rw [kr] | simp -dsimp -implicitDefEqProofs only [go_sem, rq1, hks, e5, e4, q1, row])
  refine dq_intro [(0, []), (1, []), (2, []), (3, []), (4, []), (5, []), (6, []), (7, []), (8, [2, 5]), (9, []), (10, []), (11, []), (12, []), (13, [])] (by kernel_rfl) ?_
  repeat (first | rw [ko] | rw [kr] | simp -dsimp -implicitDefEqProofs only [go_sem, rq1, q2, row])
  refine wz_intro (powB_ok hsh.1 (by omega)) ?_
  rintro _ _ ⟨⟨r, rfl⟩, rfl⟩
  repeat (first | rw [ko] | rw [kr] | simp -dsimp -implicitDefEqProofs only [go_sem, rq1, row])
  refine wz_intro clampB_ok ?_
  rintro _ _ ⟨⟨r2, rfl⟩, rfl⟩
  repeat (first | rw [ko] | rw [kr] | simp -dsimp -implicitDefEqProofs only [go_sem, rq1, rq3])
  refine append_i3 (P := Tryz.prog) (D := fun _ => none) (N := hn g .mk + 1) Go.Ai.ty_el25 Go.Ai.ty_zr3 Go.Ai.ty_cl25 (Own.keep ow (le_up (H2.le.refl _) (Nat.le_succ _))) (by rw [hn_up]; omega) (by have : Go.Ai.most = 1099511627776 := rfl; omega) ?_
  intro v4 g4 ow4 nn4 le4 on4
  rw [hn_up] at nn4
  have row4 : hg g4 (hn g .mk) .mk = _ := (on4 (hn g .mk) (by rw [hn_up]; omega) (fun e => by
   obtain ⟨_, h⟩ := ow
   rcases h with ⟨rfl, _⟩ | ⟨q, rfl, a1, _⟩
   ·cases e
   ·simp only [blockOf, Option.some.injEq] at e; omega)).trans row
  repeat (first | rw [ko] | rw [kr] | simp -dsimp -implicitDefEqProofs only [go_sem, rq1, w1])
  exact nx_keep (m - 1) (by omega) zsm ⟨i + 1, _, v4, zsm, zsm, by omega, by simp [hz], ow4, le4 g (by omega) (le_up hle (Nat.le_succ _)), by omega, row4⟩
 ·have c0 := ownI_cell ow
  have c1 := c0.2.2
  repeat (first | rw [ko] | rw [kr] | simp -dsimp -implicitDefEqProofs only [go_sem, rq1, hks, e5, e4, q1, row, c1])
  exact ⟨hle, _, by rw [hB], c1⟩
theorem specPart_ok {F : Nat → Adr} {p : LPart} {n : Int} {g : H2} (hs : p.values.length ≤ 1048576) : PW Tryz.prog W0 178 [.st (xPart F p), .raw (.int .i64 n)] g (fun y => y = .raw (.bool (partB p && decide ((p.values.length : Int) = n)))) := by
 refine PW.scalar ?_
 refine begins [[0, 1], [1, 2], [1, 2, 6]] Tryz.func178 rfl (rs := [.tmp 4]) rfl rfl ?_
 intro wf
 repeat (first | rw [ko] | rw [kr] | simp -dsimp -implicitDefEqProofs only [go_sem, hoo])
 refine wz_intro (specPut_ok (F := F) hs) ?_
 rintro _ g1 ⟨l1, v, rfl, c1⟩
 have row : hg g1 (hn g .mk) .mk = some ⟨2, [.raw (.int .i64 p.shift), .sl (F 1) 1 (ints p.values)]⟩ := (l1.2 (hn g .mk) (by rw [hn_push]; omega)).trans (by simp -dsimp -implicitDefEqProofs only [go_sem, hoo])
 have L1 : g.le g1 := H2.le.trans (le_push (H2.le.refl _)) l1
 cases h1 : partB p
 ·repeat (first | rw [ko] | rw [kr] | simp -dsimp -implicitDefEqProofs only [go_sem, rq1])
  exact ⟨L1, ⟨_, rfl⟩, rfl⟩
 ·repeat (first | rw [ko] | rw [kr] | simp -dsimp -implicitDefEqProofs only [go_sem, rq1, row])
  exact ⟨L1, ⟨_, rfl⟩, rfl⟩
end Go.Bi
end
section
set_option maxRecDepth 20000
namespace Go.Bi
open Go.Proofs
open Go.Ai (wrap_i64 wrap_u8 Heap)
variable {W0 : World} {P : Program}
set_option maxHeartbeats 4000000
def partN (n : Int) (p : LPart) : Bool := partB p && decide ((p.values.length : Int) = n)
def partsB (l : List LPart) (k n : Int) : Bool := decide ((l.length : Int) = k) && !(l.any fun p => !partN n p)
def layersB (l : List (List LPart)) (m : LModel) : Bool := decide ((l.length : Int) = m.layers.length) && !(l.any fun x => !partsB x m.heads (Int.tdiv m.dim m.heads))
def cellB (c : LCell) (m : LModel) : Bool := layersB c.keys m && layersB c.values m
def smallP (l : List LPart) : Prop := l.length ≤ 1048576 ∧ ∀ i, i < l.length → (l.getD i default).values.length ≤ 1048576
def smallPP (l : List (List LPart)) : Prop := l.length ≤ 1048576 ∧ ∀ i, i < l.length → smallP (l.getD i default)
theorem indexP_ok {F : FuncId} {p : LPart → Bool} {caps : List Value} {f : Adr} {ss : List LPart} {h : H2} (hn0 : ss.length ≤ 1048576)
  (hf : ∀ (i : Nat), i < ss.length → ∀ (F' : Nat → Adr) (h' : H2), h.le h' → PW Tryz.prog W0 F ([.st (xPart F' (ss.getD i default))] ++ caps.map .raw) h' (fun v => v = .raw (.bool (p (ss.getD i default))))) :
  PW Tryz.prog W0 201 [.sl f 2 (rPartS ss), .raw (.func (.func F) #[] caps.toArray)] h (fun v => ∃ k : Int, v = .raw (.int .i64 k) ∧ decide (0 ≤ k) = ss.any p) := by
 refine PW.scalar ((?_ : WC2 _ _ _ _ _ fun v g' => h.le g' ∧ ∃ k : Int, v = .raw (.int .i64 k) ∧ decide (0 ≤ k) = ss.any p).mono fun v g' ⟨h1, k, h2, h3⟩ => ⟨h1, ⟨_, h2⟩, k, h2, h3⟩)
 refine begins [[0, 1], [0, 1], [0, 1, 7, 8], [0, 1, 7, 8], [0, 1, 5, 7, 8], [5], [0, 1, 7, 8], []] Tryz.func201 rfl (rs := [.tmp 4]) rfl rfl ?_
 intro wf
 repeat (first | rw [ko] | rw [kr] | simp -dsimp -implicitDefEqProofs only [go_sem])
 refine lz_keep [0, 1, 7] (fun m e h' => h.le h' ∧ ∃ k : Nat, look e 8 .mk = .raw (.int .i64 k) ∧ m + k = ss.length ∧ ∀ j : Nat, j < k → p (ss.getD j default) = false) ss.length ?_ ?_
 ·exact ⟨H2.le.refl _, 0, zsm, by omega, fun j hj => by omega⟩
 ·rintro m e h' hks ⟨hle, k, e8, hk, hpre⟩
  simp -dsimp -implicitDefEqProofs only [go_sem, rq1] at hks
  repeat (first | rw [ko] | rw [kr] | simp -dsimp -implicitDefEqProofs only [go_sem, hks, e8])
  refine gz_dec (fun h2 => ?_) (fun h2 => ?_)
  ·have h3 : k < ss.length := by omega
   repeat (first | rw [ko] | rw [kr] | simp -dsimp -implicitDefEqProofs only [go_sem, rq1, rq2, rq3, h3])
   refine pw_intro (hf k h3 (fun j => under (under f k) j) _ hle) ?_
   rintro _ n hn1 rfl
   repeat (first | rw [ko] | rw [kr] | simp -dsimp -implicitDefEqProofs only [go_sem])
   refine gz_intro (fun h4 => ?_) (fun h4 => ?_)
   ·repeat (first | rw [ko] | rw [kr] | simp -dsimp -implicitDefEqProofs only [go_sem, rq1])
    exact ⟨le_up hle hn1, _, rfl, by rw [any_getD h3 h4]; simp⟩
   ·repeat (first | rw [ko] | rw [kr] | simp -dsimp -implicitDefEqProofs only [go_sem, rq1, wrap_succ h3 (by omega)])
    refine nx_keep (m - 1) (by omega) zsm ⟨le_up hle hn1, k + 1, zsm, by omega, fun j hj => ?_⟩
    by_cases hji : j = k
    ·subst hji; exact h4
    ·exact hpre j (by omega)
  ·repeat (first | rw [ko] | rw [kr] | simp -dsimp -implicitDefEqProofs only [go_sem])
   exact ⟨hle, _, rfl, by rw [any_none fun j hj => hpre j (by omega)]; rfl⟩
theorem containsP_ok {F : FuncId} {p : LPart → Bool} {caps : List Value} {f : Adr} {ss : List LPart} {h : H2} (hn0 : ss.length ≤ 1048576)
  (hf : ∀ (i : Nat), i < ss.length → ∀ (F' : Nat → Adr) (h' : H2), h.le h' → PW Tryz.prog W0 F ([.st (xPart F' (ss.getD i default))] ++ caps.map .raw) h' (fun v => v = .raw (.bool (p (ss.getD i default))))) :
  PW Tryz.prog W0 196 [.sl f 2 (rPartS ss), .raw (.func (.func F) #[] caps.toArray)] h (fun v => v = .raw (.bool (ss.any p))) := by
 refine PW.scalar ?_
 refine begins [[0, 1], [0, 1]] Tryz.func196 rfl (rs := [.tmp 4]) rfl rfl ?_
 intro wf
 repeat (first | rw [ko] | rw [kr] | simp -dsimp -implicitDefEqProofs only [go_sem])
 refine pw_intro (indexP_ok hn0 hf) ?_
 rintro _ n hn1 ⟨k, rfl, hk⟩
 repeat (first | rw [ko] | rw [kr] | simp -dsimp -implicitDefEqProofs only [go_sem, hk])
 exact ⟨le_up (H2.le.refl _) hn1, ⟨_, rfl⟩, rfl⟩
theorem indexQ_ok {F : FuncId} {p : List LPart → Bool} {caps : List Value} {f : Adr} {ss : List (List LPart)} {h : H2} (hn0 : ss.length ≤ 1048576)
  (hf : ∀ (i : Nat), i < ss.length → ∀ (f' : Adr) (h' : H2), h.le h' → PW Tryz.prog W0 F ([.sl f' 2 (rPartS (ss.getD i default))] ++ caps.map .raw) h' (fun v => v = .raw (.bool (p (ss.getD i default))))) :
  PW Tryz.prog W0 195 [.sl f 1 (rPartSS ss), .raw (.func (.func F) #[] caps.toArray)] h (fun v => ∃ k : Int, v = .raw (.int .i64 k) ∧ decide (0 ≤ k) = ss.any p) := by
 refine PW.scalar ((?_ : WC2 _ _ _ _ _ fun v g' => h.le g' ∧ ∃ k : Int, v = .raw (.int .i64 k) ∧ decide (0 ≤ k) = ss.any p).mono fun v g' ⟨h1, k, h2, h3⟩ => ⟨h1, ⟨_, h2⟩, k, h2, h3⟩)
 refine begins [[0, 1], [0, 1], [0, 1, 7, 8], [0, 1, 7, 8], [0, 1, 5, 7, 8], [5], [0, 1, 7, 8], []] Tryz.func195 rfl (rs := [.tmp 4]) rfl rfl ?_
 intro wf
 repeat (first | rw [ko] | rw [kr] | simp -dsimp -implicitDefEqProofs only [go_sem])
 refine lz_keep [0, 1, 7] (fun m e h' => h.le h' ∧ ∃ k : Nat, look e 8 .mk = .raw (.int .i64 k) ∧ m + k = ss.length ∧ ∀ j : Nat, j < k → p (ss.getD j default) = false) ss.length ?_ ?_
 ·exact ⟨H2.le.refl _, 0, zsm, by omega, fun j hj => by omega⟩
 ·rintro m e h' hks ⟨hle, k, e8, hk, hpre⟩
  simp -dsimp -implicitDefEqProofs only [go_sem, rq1] at hks
  repeat (first | rw [ko] | rw [kr] | simp -dsimp -implicitDefEqProofs only [go_sem, hks, e8])
  refine gz_dec (fun h2 => ?_) (fun h2 => ?_)
  ·have h3 : k < ss.length := by omega
   repeat (first | rw [ko] | rw [kr] | simp -dsimp -implicitDefEqProofs only [go_sem, rq1, h3])
   refine pw_intro (hf k h3 _ _ hle) ?_
   rintro _ n hn1 rfl
   repeat (first | rw [ko] | rw [kr] | simp -dsimp -implicitDefEqProofs only [go_sem])
   refine gz_intro (fun h4 => ?_) (fun h4 => ?_)
   ·repeat (first | rw [ko] | rw [kr] | simp -dsimp -implicitDefEqProofs only [go_sem, rq1])
    exact ⟨le_up hle hn1, _, rfl, by rw [any_getD h3 h4]; simp⟩
   ·repeat (first | rw [ko] | rw [kr] | simp -dsimp -implicitDefEqProofs only [go_sem, rq1, wrap_succ h3 (by omega)])
    refine nx_keep (m - 1) (by omega) zsm ⟨le_up hle hn1, k + 1, zsm, by omega, fun j hj => ?_⟩
    by_cases hji : j = k
    ·subst hji; exact h4
    ·exact hpre j (by omega)
  ·repeat (first | rw [ko] | rw [kr] | simp -dsimp -implicitDefEqProofs only [go_sem])
   exact ⟨hle, _, rfl, by rw [any_none fun j hj => hpre j (by omega)]; rfl⟩
theorem containsQ_ok {F : FuncId} {p : List LPart → Bool} {caps : List Value} {f : Adr} {ss : List (List LPart)} {h : H2} (hn0 : ss.length ≤ 1048576)
  (hf : ∀ (i : Nat), i < ss.length → ∀ (f' : Adr) (h' : H2), h.le h' → PW Tryz.prog W0 F ([.sl f' 2 (rPartS (ss.getD i default))] ++ caps.map .raw) h' (fun v => v = .raw (.bool (p (ss.getD i default))))) :
  PW Tryz.prog W0 188 [.sl f 1 (rPartSS ss), .raw (.func (.func F) #[] caps.toArray)] h (fun v => v = .raw (.bool (ss.any p))) := by
 refine PW.scalar ?_
 refine begins [[0, 1], [0, 1]] Tryz.func188 rfl (rs := [.tmp 4]) rfl rfl ?_
 intro wf
 repeat (first | rw [ko] | rw [kr] | simp -dsimp -implicitDefEqProofs only [go_sem])
 refine pw_intro (indexQ_ok hn0 hf) ?_
 rintro _ n hn1 ⟨k, rfl, hk⟩
 repeat (first | rw [ko] | rw [kr] | simp -dsimp -implicitDefEqProofs only [go_sem, hk])
 exact ⟨le_up (H2.le.refl _) hn1, ⟨_, rfl⟩, rfl⟩
theorem parts1_ok {F : Nat → Adr} {p : LPart} {b z : Nat} {n : Int} {h : H2} (hbn : b < hn h .mk) (hb : hg h b .mk = some ⟨z, [.raw (.int .i64 n)]⟩) (hs : p.values.length ≤ 1048576) : PW Tryz.prog W0 197 [.st (xPart F p), .raw (.pointer (some ⟨b, 0, none⟩))] h (fun y => y = .raw (.bool (!partN n p))) := by
 refine PW.scalar ?_
 refine begins [[0, 1], [1, 2]] Tryz.func197 rfl (rs := [.tmp 3]) rfl rfl ?_
 intro wf
 have hne : (b == hn h .mk) = false := zne
 repeat (first | rw [ko] | rw [kr] | simp -dsimp -implicitDefEqProofs only [go_sem, hb, hne, hoo])
 refine pw_intro (implPart_ok (F := F) hs) ?_
 rintro _ n1 hn1 rfl
 rw [hn_push] at hn1
 repeat (first | rw [ko] | rw [kr] | simp -dsimp -implicitDefEqProofs only [go_sem])
 exact ⟨le_up (le_push (H2.le.refl _)) (by rw [hn_push]; exact hn1), ⟨_, rfl⟩, rfl⟩
theorem partsOk_ok {f : Adr} {l : List LPart} {k n : Int} {g : H2} (hs : smallP l) : PW Tryz.prog W0 190 [.sl f 2 (rPartS l), .raw (.int .i64 k), .raw (.int .i64 n)] g (fun y => y = .raw (.bool (partsB l k n))) := by
 refine PW.scalar ?_
 refine begins [[0, 1, 2], [0, 1, 5]] Tryz.func190 rfl (rs := [.tmp 6]) rfl rfl ?_
 intro wf
 by_cases h1 : (l.length : Int) = k
 ·have d1 : decide ((l.length : Int) = k) = true := decide_eq_true h1
  repeat (first | rw [ko] | rw [kr] | simp -dsimp -implicitDefEqProofs only [go_sem, rq1, d1, hoo])
  refine pw_intro (containsP_ok (F := 197) (p := fun x => !partN n x) (caps := [.pointer (some ⟨hn g .mk, 0, none⟩)]) hs.1 fun i hi F' h' hle => ?_) ?_
  ·refine parts1_ok (z := 1) ?_ ((hle.2 (hn g .mk) (by rw [hn_push]; omega)).trans (by simp -dsimp -implicitDefEqProofs only [go_sem, hoo])) (hs.2 i hi)
   have := hle.1
   rw [hn_push] at this; omega
  rintro _ n1 hn1 rfl
  rw [hn_push] at hn1
  repeat (first | rw [ko] | rw [kr] | simp -dsimp -implicitDefEqProofs only [go_sem])
  exact ⟨le_up (le_push (H2.le.refl _)) (by rw [hn_push]; exact hn1), ⟨_, rfl⟩, by rw [partsB, d1]; rfl⟩
 ·have d1 : decide ((l.length : Int) = k) = false := decide_eq_false h1
  repeat (first | rw [ko] | rw [kr] | simp -dsimp -implicitDefEqProofs only [go_sem, rq1, d1, hoo])
  exact ⟨le_push (H2.le.refl _), ⟨_, rfl⟩, by rw [partsB, d1]; rfl⟩
theorem lays1_ok {f : Adr} {l : List LPart} {b : Nat} {d k : Int} {ks : List X} {h : H2} (hb : hg h b .mk = some ⟨14, .raw (.int .i64 d) :: .raw (.int .i64 k) :: ks⟩) (hd : d = 4 ∨ d = 8) (hk : k = 1 ∨ k = 2) (hs : smallP l) : PW Tryz.prog W0 189 [.sl f 2 (rPartS l), .raw (.pointer (some ⟨b, 0, none⟩))] h (fun y => y = .raw (.bool (!partsB l k (Int.tdiv d k)))) := by
 refine PW.scalar ?_
 refine begins [[0, 1], [0, 1]] Tryz.func189 rfl (rs := [.tmp 3]) rfl rfl ?_
 intro wf
 have z0 : (k == 0) = false := zne
 have w1 : IntKind.i64.wrap (Int.tdiv d k) = Int.tdiv d k := by
  rcases hd with hd | hd <;> rcases hk with hk | hk <;> rw [hd, hk] <;> decide
 repeat (first | rw [ko] | rw [kr] | simp -dsimp -implicitDefEqProofs only [go_sem])
 refine dq_intro [(0, []), (1, []), (2, []), (3, []), (4, []), (5, []), (6, []), (7, []), (8, []), (9, []), (10, [])] (by kernel_rfl) ?_
 repeat (first | rw [ko] | rw [kr] | simp -dsimp -implicitDefEqProofs only [go_sem, rq1, hb, z0, w1])
 refine pw_intro (partsOk_ok hs) ?_
 rintro _ n1 hn1 rfl
 try (rw [kq]; refine ⟨zsm, ?_⟩)
 repeat (first | rw [ko] | rw [kr] | simp -dsimp -implicitDefEqProofs only [go_sem])
 exact ⟨le_up (H2.le.refl _) hn1, ⟨_, rfl⟩, rfl⟩
theorem layersOk_ok {f : Adr} {F : Nat → Adr} {l : List (List LPart)} {m : LModel} {g : H2} (hd : m.dim = 4 ∨ m.dim = 8) (hk : m.heads = 1 ∨ m.heads = 2) (hs : smallPP l) : PW Tryz.prog W0 167 [.sl f 1 (rPartSS l), .st (xModel F m)] g (fun y => y = .raw (.bool (layersB l m))) := by
 refine PW.scalar ?_
 refine begins [[0, 1], [0, 3]] Tryz.func167 rfl (rs := [.tmp 4]) rfl rfl ?_
 intro wf
 by_cases h1 : (l.length : Int) = m.layers.length
 ·have d1 : decide ((l.length : Int) = m.layers.length) = true := decide_eq_true h1
  repeat (first | rw [ko] | rw [kr] | simp -dsimp -implicitDefEqProofs only [go_sem, rq1, d1, hoo])
  refine pw_intro (containsQ_ok (F := 189) (p := fun x => !partsB x m.heads (Int.tdiv m.dim m.heads)) (caps := [.pointer (some ⟨hn g .mk, 0, none⟩)]) hs.1 fun i hi f' h' hle => ?_) ?_
  ·exact lays1_ok ((hle.2 (hn g .mk) (by rw [hn_push]; omega)).trans (by simp -dsimp -implicitDefEqProofs only [go_sem, hoo] <;> rfl)) hd hk (hs.2 i hi)
  rintro _ n1 hn1 rfl
  rw [hn_push] at hn1
  repeat (first | rw [ko] | rw [kr] | simp -dsimp -implicitDefEqProofs only [go_sem])
  exact ⟨le_up (le_push (H2.le.refl _)) (by rw [hn_push]; exact hn1), ⟨_, rfl⟩, by rw [layersB, d1]; rfl⟩
 ·have d1 : decide ((l.length : Int) = m.layers.length) = false := decide_eq_false h1
  repeat (first | rw [ko] | rw [kr] | simp -dsimp -implicitDefEqProofs only [go_sem, d1, hoo])
  exact ⟨le_push (H2.le.refl _), ⟨_, rfl⟩, by rw [layersB, d1]; rfl⟩
theorem cellOk_ok {F F' : Nat → Adr} {c : LCell} {m : LModel} {g : H2} (hd : m.dim = 4 ∨ m.dim = 8) (hk : m.heads = 1 ∨ m.heads = 2) (hs : smallPP c.keys ∧ smallPP c.values) : PW Tryz.prog W0 138 [.st (xCell F' c), .st (xModel F m)] g (fun y => y = .raw (.bool (cellB c m))) := by
 refine PW.scalar ?_
 refine begins [[0, 1], [2, 3]] Tryz.func138 rfl (rs := [.tmp 4]) rfl rfl ?_
 intro wf
 have hne : (hn g .mk == hn g .mk + 1) = false := by simp
 repeat (first | rw [ko] | rw [kr] | simp -dsimp -implicitDefEqProofs only [go_sem, hoo, hne])
 refine pw_intro (layersOk_ok (F := F) hd hk hs.1) ?_
 rintro _ n1 hn1 rfl
 simp only [hn_push] at hn1
 cases h1 : layersB c.keys m
 ·repeat (first | rw [ko] | rw [kr] | simp -dsimp -implicitDefEqProofs only [go_sem, hoo])
  exact ⟨le_up (le_push (le_push (H2.le.refl _))) (by simp only [hn_push]; exact hn1), ⟨_, rfl⟩, by rw [cellB, h1]; rfl⟩
 repeat (first | rw [ko] | rw [kr] | simp -dsimp -implicitDefEqProofs only [go_sem, rq1, hoo, hne])
 refine pw_intro (layersOk_ok (F := F) hd hk hs.2) ?_
 rintro _ n2 hn2 rfl
 rw [hn_up] at hn2
 repeat (first | rw [ko] | rw [kr] | simp -dsimp -implicitDefEqProofs only [go_sem])
 exact ⟨le_up (le_up (le_push (le_push (H2.le.refl _))) (by simp only [hn_push]; exact hn1)) (by rw [hn_up]; exact hn2), ⟨_, rfl⟩, by rw [cellB, h1]; rfl⟩
end Go.Bi
end
