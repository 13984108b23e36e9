/- Own lemmas that the theorem of this claim needs: the abstract machine and walks of functions. -/
import Derived.Test.YtjofbadmkigkjaaGreatReLawAI
import Derived.Laws.Bits128
set_option linter.unusedSimpArgs false
set_option linter.unusedVariables false
open Nat renaming reduceBEq → rq1, reduceAdd → rq2, reduceLeDiff → rq3, reduceMul → rq4
open Int renaming reduceLE → rq5, reduceLT → rq6, reduceBEq → rq7
section
set_option maxRecDepth 20000
namespace Go.Bi
open Go.Proofs
open Go.Ai (wrap_i64 wrap_u8)
variable {W0 : World}
structure LPart where
 shift : Int
 values : List Int
instance : Inhabited LPart := ⟨⟨default, default⟩⟩
def ePart (c : LPart) : List T := [.v (.int .i64 c.shift), .l 1 (ints c.values)]
def xPart (F : Nat → Adr) (c : LPart) : List X := [.raw (.int .i64 c.shift), .sl (F 1) 1 (ints c.values)]
theorem ePart_def {c : LPart} : ePart c = [.v (.int .i64 c.shift), .l 1 (ints c.values)] := rfl
theorem xPart_def {F : Nat → Adr} {c : LPart} : xPart F c = [.raw (.int .i64 c.shift), .sl (F 1) 1 (ints c.values)] := rfl
def szPart (c : LPart) : Nat := c.values.length
def fitPart (c : LPart) : Prop := c.values.length ≤ 9223372036854775807
attribute [go_sem] ePart_def xPart_def
theorem outPart {g : H2} {c : LPart} {b1 : List Nat} {s1 : X} (a1 : OT g b1 s1 (.l 1 (ints c.values))) : OTs g (b1) [.raw (.int .i64 c.shift), s1] (ePart c) := by
 have := OTs.cons (OT.raw (v := .int .i64 c.shift) rfl) (OTs.cons a1 (OTs.nil))
 simpa only [ePart, List.append_nil, List.nil_append] using this
theorem szPart_ok {F : Nat → Adr} {c : LPart} {left : Int} {h : H2} (hf : fitPart c) (hl : 0 ≤ left ∧ left ≤ 1048576) : PW Tryz.prog W0 282 [.st (xPart F c), .raw (.int .i64 left)] h (fun y => ∃ k : Int, y = .raw (.int .i64 k) ∧ (0 ≤ k → (szPart c : Int) + k ≤ left)) := by
 unfold fitPart at hf
 refine PW.scalar ?_
 refine begins [[0, 1], [1, 2], [1], [], [1]] Tryz.func282 rfl (rs := [.tmp 4]) rfl rfl ?_
 intro wf
 repeat (first | rw [ko] | rw [kr] | simp -dsimp -implicitDefEqProofs only [go_sem, rq1])
 refine pw_intro (szIntS_pw  hf ⟨by omega, by omega⟩) ?_
 rintro _ n1 hn1 ⟨k1, rfl, hk1⟩
 repeat (first | rw [ko] | rw [kr] | simp -dsimp -implicitDefEqProofs only [go_sem])
 refine gz_dec (fun q1 => ?_) (fun q1 => ?_)
 ·repeat (first | rw [ko] | rw [kr] | simp -dsimp -implicitDefEqProofs only [go_sem])
  exact ⟨zale, ⟨_, rfl⟩, _, rfl, fun hh => by omega⟩
 repeat (first | rw [ko] | rw [kr] | simp -dsimp -implicitDefEqProofs only [go_sem, rq1])
 exact ⟨zale, ⟨_, rfl⟩, _, rfl, fun hh => by unfold szPart; omega⟩
theorem eqPart_ok {F F' : Nat → Adr} {c : LPart} {h : H2} (hf : fitPart c) : PW Tryz.prog W0 286 [.st (xPart F c), .st (xPart F' c)] h (fun y => y = .raw (.bool true)) := by
 unfold fitPart at hf
 refine PW.scalar ?_
 refine begins [[0, 1], [2, 3], [], [2, 3], [], []] Tryz.func286 rfl (rs := [.tmp 4]) rfl rfl ?_
 intro wf
 repeat (first | rw [ko] | rw [kr] | simp -dsimp -implicitDefEqProofs only [go_sem, rq1])
 refine pw_intro (eqIntS_pw  hf) ?_
 rintro _ n1 hn1 rfl
 repeat (first | rw [ko] | rw [kr] | simp -dsimp -implicitDefEqProofs only [go_sem])
 exact ⟨zale, ⟨_, rfl⟩, rfl⟩
theorem toPart_ok {F : Nat → Adr} {c : LPart} {h : H2} (hs : szPart c ≤ 1048576) : NewS Tryz.prog W0 285 [.st (xPart F c)] h (ePart c) := by
 unfold szPart at hs
 refine begins [[0], [1, 2], [1, 2, 3], [1, 2, 3], [2, 3]] Tryz.func285 rfl (rs := [.cell 2 267]) rfl rfl ?_
 intro wf
 repeat (first | rw [ko] | rw [kr] | simp -dsimp -implicitDefEqProofs only [go_sem, rq1])
 refine wz_intro (toIntS_new  (by omega)) ?_
 rintro s1 g1 ⟨l1, b1, o1, bl1⟩
 have ce1 := OT.cell o1
 have n1 := l1.n
 have a10 := l1.2 (hn h .mk) (by simp only [hn_push, hn_set]; omega)
 have a11 := l1.2 (hn h .mk + 1) (by simp only [hn_push, hn_set]; omega)
 have a12 := l1.2 (hn h .mk + 1 + 1) (by simp only [hn_push, hn_set]; omega)
 simp -dsimp -implicitDefEqProofs only [go_sem, hoo] at n1 a10 a11 a12
 have L1 : h.le g1 := H2.le.trans zale l1
 repeat (first | rw [ko] | rw [kr] | simp -dsimp -implicitDefEqProofs only [go_sem, rq1, rq2, a11, a12, ce1])
 refine ⟨zale, _, b1, rfl, outPart (c := c) ?_, ?_⟩
 ·refine OT.frame o1 fun b hb => ?_
  have hbl := bl1.2 b (hb)
  simp only [hn_push, hn_set] at hbl
  simp only [H2.set]
  rw [if_neg (by omega), if_neg (by omega)]
 ·simp only [hn_set]
  have m1 := bl1
  simp only [hn_push, hn_set] at m1
  have := (m1).wide (N' := hn h .mk) (by omega) (Nat.le_refl _)
  simpa only [List.append_assoc] using this
def rPartS (zs : List LPart) : List (List T) := zs.map ePart
theorem rPartS_len {zs : List LPart} : (rPartS zs).length = zs.length := by simp [rPartS]
theorem rPartS_el {zs : List LPart} {i : Nat} (hi : i < zs.length) : el (rPartS zs) i = ePart (zs.getD i default) := el_map hi
attribute [go_sem] rPartS_len rPartS_el
def szPartS (zs : List LPart) : Nat := zs.length + sumN szPart zs
def fitPartS (zs : List LPart) : Prop := zs.length ≤ 9223372036854775807 ∧ ∀ x ∈ zs, fitPart x
theorem szPartS_pw {f : Adr} {zs : List LPart} {left : Int} {h : H2} (hf : fitPartS zs) (hl : 0 ≤ left ∧ left ≤ 1048576) : PW Tryz.prog W0 276 [.sl f 2 (rPartS zs), .raw (.int .i64 left)] h (fun y => ∃ k : Int, y = .raw (.int .i64 k) ∧ (0 ≤ k → (szPartS zs : Int) + k ≤ left)) := by
 obtain ⟨hf1, hf2⟩ := hf
 unfold szPartS
 have hw : IntKind.i64.wrap (left - zs.length) = left - zs.length := by rw [wrap_i64] <;> omega
 refine PW.scalar ?_
 refine begins [[0, 1], [0, 1], [0, 1], [], [0, 1], [0, 1, 5], [0, 1, 5], [0, 1, 5], [0, 1, 5], [], [1]] Tryz.func276 rfl (rs := [.tmp 4]) rfl rfl ?_
 intro wf
 repeat (first | rw [ko] | rw [kr] | simp -dsimp -implicitDefEqProofs only [go_sem, rq1, hw])
 refine gz_dec (fun h1 => ?_) (fun h1 => ?_)
 ·repeat (first | rw [ko] | rw [kr] | simp -dsimp -implicitDefEqProofs only [go_sem])
  exact ⟨H2.le.refl _, ⟨_, rfl⟩, _, rfl, fun hh => by omega⟩
 ·repeat (first | rw [ko] | rw [kr] | simp -dsimp -implicitDefEqProofs only [go_sem, rq1])
  refine lz_keep [0] (fun m e h' => ∃ (k n : Nat) (x : Int), h' = h.up n ∧ hn h .mk ≤ n ∧ look e 5 .mk = .raw (.int .i64 k) ∧ look e 1 .mk = .raw (.int .i64 x) ∧ 0 ≤ x ∧ (zs.length : Int) + sumN szPart (zs.take k) + x ≤ left ∧ m + k = zs.length) zs.length ?_ ?_
  ·exact ⟨0, hn h .mk, left - zs.length, up_self, Nat.le_refl _, zsm, zsm, by omega, by simp [sumN]; omega, by omega⟩
  ·rintro m e h' hks ⟨k, n, x, rfl, hnn, e5, e1, hx, hsum, hk⟩
   simp -dsimp -implicitDefEqProofs only [go_sem, rq1] at hks
   by_cases h2 : (k : Int) < (zs.length : Int)
   ·have h3 : k < zs.length := by omega
    have hst : sumN szPart (zs.take (k + 1)) = sumN szPart (zs.take k) + szPart (zs.getD k default) := sumN_take (f := szPart) h3
    repeat (first | rw [ko] | rw [kr] | simp -dsimp -implicitDefEqProofs only [go_sem, rq1, rq2, rq3, hks, e5, e1, h2, h3])
    refine pw_intro (szPart_ok (F := under (under f k)) (c := zs.getD k default) (hf2 _ (getD_mem h3)) ⟨by omega, by omega⟩) ?_
    rintro _ n2 hn2 ⟨x2, rfl, hx2⟩
    simp only [hn_up] at hn2
    repeat (first | rw [ko] | rw [kr] | simp -dsimp -implicitDefEqProofs only [go_sem, rq1])
    refine gz_dec (fun h4 => ?_) (fun h4 => ?_)
    ·repeat (first | rw [ko] | rw [kr] | simp -dsimp -implicitDefEqProofs only [go_sem])
     exact ⟨(by first | exact le_up (H2.le.refl _) (by omega) | exact le_up (le_up (H2.le.refl _) hnn) (by rw [hn_up]; omega)), ⟨_, rfl⟩, _, rfl, fun hh => by omega⟩
    ·repeat (first | rw [ko] | rw [kr] | simp -dsimp -implicitDefEqProofs only [go_sem, rq1, wrap_succ h3 hf1])
     exact nx_keep (m - 1) (by omega) zsm ⟨k + 1, n2, x2, up_up, by omega, zsm, zsm, by omega, by have := hx2 (by omega); omega, by omega⟩
   ·repeat (first | rw [ko] | rw [kr] | simp -dsimp -implicitDefEqProofs only [go_sem, rq1, hks, e5, e1, h2])
    refine ⟨le_up (H2.le.refl _) hnn, ⟨_, rfl⟩, x, rfl, fun _ => ?_⟩
    rw [List.take_of_length_le (by omega)] at hsum
    omega
theorem eqPartS_pw {f f' : Adr} {zs : List LPart} {h : H2} (hf : fitPartS zs) : PW Tryz.prog W0 279 [.sl f 2 (rPartS zs), .sl f' 2 (rPartS zs)] h (fun y => y = .raw (.bool true)) := by
 obtain ⟨hf1, hf2⟩ := hf
 refine PW.scalar ?_
 refine begins [[0, 1], [0, 1], [], [0, 1], [0, 1, 5], [0, 1, 5], [0, 1, 5], [], []] Tryz.func279 rfl (rs := [.tmp 4]) rfl rfl ?_
 intro wf
 repeat (first | rw [ko] | rw [kr] | simp -dsimp -implicitDefEqProofs only [go_sem, rq1])
 refine lz_keep [0, 1] (fun m e h' => ∃ (k n : Nat), h' = h.up n ∧ hn h .mk ≤ n ∧ look e 5 .mk = .raw (.int .i64 k) ∧ m + k = zs.length) zs.length ?_ ?_
 ·exact ⟨0, hn h .mk, up_self, Nat.le_refl _, zsm, by omega⟩
 ·rintro m e h' hks ⟨k, n, rfl, hnn, e5, hk⟩
  simp -dsimp -implicitDefEqProofs only [go_sem, rq1] at hks
  by_cases h2 : (k : Int) < (zs.length : Int)
  ·have h3 : k < zs.length := by omega
   repeat (first | rw [ko] | rw [kr] | simp -dsimp -implicitDefEqProofs only [go_sem, rq1, hks, e5, h2])
   refine dq_intro [(0, []), (1, []), (2, []), (3, []), (4, []), (5, []), (6, []), (7, []), (8, []), (9, [])] (by kernel_rfl) ?_
   repeat (first | rw [ko] | rw [kr] | simp -dsimp -implicitDefEqProofs only [go_sem, rq1, rq2, rq3, h3])
   refine pw_intro (eqPart_ok (F := under (under f k)) (F' := under (under f' k)) (c := zs.getD k default) (hf2 _ (getD_mem h3))) ?_
   rintro _ n2 hn2 rfl
   simp only [hn_up] at hn2
   repeat (first | rw [ko] | rw [kr] | simp -dsimp -implicitDefEqProofs only [go_sem, rq1, wrap_succ h3 hf1])
   exact nx_keep (m - 1) (by omega) zsm ⟨k + 1, n2, up_up, by omega, zsm, by omega⟩
  ·repeat (first | rw [ko] | rw [kr] | simp -dsimp -implicitDefEqProofs only [go_sem, rq1, hks, e5, h2])
   exact ⟨le_up (H2.le.refl _) hnn, ⟨_, rfl⟩, rfl⟩
theorem toPartS_new {f : Adr} {zs : List LPart} {h : H2} (hs : szPartS zs ≤ 1048576) : NewT Tryz.prog W0 278 [.sl f 2 (rPartS zs)] h (.l 2 (rPartS zs)) := by
 unfold szPartS at hs
 have hE : ∀ a, (ePart a).length = 2 := fun a => rfl
 refine begins [[0], [0], [0, 3], [0, 3, 4], [0, 3, 4], [0, 3, 4], [3]] Tryz.func278 rfl (rs := [.tmp 2]) rfl rfl ?_
 intro wf
 repeat (first | rw [ko] | rw [kr] | simp -dsimp -implicitDefEqProofs only [go_sem])
 refine make_intro Ai.ty_el250 Ai.ty_zr267 (by decide) ⟨by omega, by simp only [Int.toNat_natCast]; have : Ai.most = 1099511627776 := rfl; omega⟩ ?_
 repeat (first | rw [ko] | rw [kr] | simp -dsimp -implicitDefEqProofs only [go_sem, rq1])
 refine lz_keep [0, 3] (fun m e h' => ∃ (k : Nat) (cs : List X) (bs : List Nat), look e 4 .mk = .raw (.int .i64 k) ∧ m + k = zs.length ∧ hg h' (hn h .mk) .mk = some ⟨2, cs⟩ ∧ cs.length = zs.length * 2 ∧ OTs h' bs (cs.take (k * 2)) (((zs.take k).map ePart).flatten) ∧ Bl (hn h .mk + 1) (hn h' .mk) bs ∧ h.le h' ∧ hn h .mk < hn h' .mk) zs.length ?_ ?_
 ·exact ⟨0, _, [], zsm, by omega, (by rw [hg_push, hoo]; rfl), by simp [rep_len], by simpa using OTs.nil, Bl.nil, le_push (H2.le.refl _), by rw [hn_push]; omega⟩
 ·rintro m e h' hks ⟨k, cs, bs, e4, hk, hrow, hcs, ho, hbl, hle, hlt⟩
  simp -dsimp -implicitDefEqProofs only [go_sem] at hks
  by_cases h2 : (k : Int) < (zs.length : Int)
  ·have h3 : k < zs.length := by omega
   have hsm : szPart (zs.getD k default) ≤ sumN szPart zs := sumN_mem (f := szPart) (getD_mem h3)
   repeat (first | rw [ko] | rw [kr] | simp -dsimp -implicitDefEqProofs only [go_sem, rq1, rq2, rq3, hks, e4, h2, h3])
   refine wz_intro (toPart_ok (F := under (under f k)) (c := zs.getD k default) (by omega)) ?_
   rintro _ g2 ⟨l2, ys, b2, rfl, o2, bl2⟩
   have nn2 := l2.1
   have hyl : (ys).length = 2 := (OTs.len o2).trans (hE _)
   have hyo := OTs.okx o2
   obtain ⟨w1, w2, w3⟩ := wrt_next hcs h3 hyl
   have row2 := (l2.2 (hn h .mk) hlt).trans hrow
   have hi2 : (0 : Int) ≤ (k : Int) ∧ (k : Int) < (zs.length : Int) := by omega
   repeat (first | rw [ko] | rw [kr] | simp -dsimp -implicitDefEqProofs only [go_sem, rq1, row2, hi2, hyl, hyo, w1, wrap_succ h3 (by omega)])
   have hset : ∀ {b : Nat} {kk : OB}, b ≠ hn h .mk → (g2.set (hn h .mk) kk).get b = g2.get b := fun hb => by simp only [H2.set]; rw [if_neg hb]
   refine nx_keep (m - 1) (by omega) zsm ⟨k + 1, _, bs ++ b2, zsm, by omega, (by rw [hg_set, hoo]; rfl), w2, ?_, ?_, le_set (hle.trans l2) (Nat.le_refl _), by simp -dsimp -implicitDefEqProofs only [go_sem] <;> omega⟩
   ·rw [w3, flat_next h3]
    refine OTs.append ((OTs.keep ho l2 hbl).frame fun b hb => hset (by have := (hbl.2 b hb).1; omega)) (o2.frame fun b hb => hset (by have := (bl2.2 b hb).1; omega))
   ·rw [hn_set]
    exact hbl.append bl2 (by omega) nn2
  ·repeat (first | rw [ko] | rw [kr] | simp -dsimp -implicitDefEqProofs only [go_sem, rq1, hks, e4, h2])
   have : k = zs.length := by omega
   subst this
   obtain ⟨q1, q2⟩ := OT.full hE hrow hcs ho hbl hlt
   exact ⟨hle, _, q1, q2⟩
def ePartS (zs : List LPart) : List T := [.l 2 (rPartS zs)]
theorem ePartS_def {zs : List LPart} : ePartS zs = [.l 2 (rPartS zs)] := rfl
attribute [go_sem] ePartS_def
def rPartSS (zs : List (List LPart)) : List (List T) := zs.map ePartS
theorem rPartSS_len {zs : List (List LPart)} : (rPartSS zs).length = zs.length := by simp [rPartSS]
theorem rPartSS_el {zs : List (List LPart)} {i : Nat} (hi : i < zs.length) : el (rPartSS zs) i = ePartS (zs.getD i default) := el_map hi
attribute [go_sem] rPartSS_len rPartSS_el
def szPartSS (zs : List (List LPart)) : Nat := zs.length + sumN szPartS zs
def fitPartSS (zs : List (List LPart)) : Prop := zs.length ≤ 9223372036854775807 ∧ ∀ x ∈ zs, fitPartS x
theorem szPartSS_pw {f : Adr} {zs : List (List LPart)} {left : Int} {h : H2} (hf : fitPartSS zs) (hl : 0 ≤ left ∧ left ≤ 1048576) : PW Tryz.prog W0 264 [.sl f 1 (rPartSS zs), .raw (.int .i64 left)] h (fun y => ∃ k : Int, y = .raw (.int .i64 k) ∧ (0 ≤ k → (szPartSS zs : Int) + k ≤ left)) := by
 obtain ⟨hf1, hf2⟩ := hf
 unfold szPartSS
 have hw : IntKind.i64.wrap (left - zs.length) = left - zs.length := by rw [wrap_i64] <;> omega
 refine PW.scalar ?_
 refine begins [[0, 1], [0, 1], [0, 1], [], [0, 1], [0, 1, 5], [0, 1, 5], [0, 1, 5], [0, 1, 5], [], [1]] Tryz.func264 rfl (rs := [.tmp 4]) rfl rfl ?_
 intro wf
 repeat (first | rw [ko] | rw [kr] | simp -dsimp -implicitDefEqProofs only [go_sem, rq1, hw])
 refine gz_dec (fun h1 => ?_) (fun h1 => ?_)
 ·repeat (first | rw [ko] | rw [kr] | simp -dsimp -implicitDefEqProofs only [go_sem])
  exact ⟨H2.le.refl _, ⟨_, rfl⟩, _, rfl, fun hh => by omega⟩
 ·repeat (first | rw [ko] | rw [kr] | simp -dsimp -implicitDefEqProofs only [go_sem, rq1])
  refine lz_keep [0] (fun m e h' => ∃ (k n : Nat) (x : Int), h' = h.up n ∧ hn h .mk ≤ n ∧ look e 5 .mk = .raw (.int .i64 k) ∧ look e 1 .mk = .raw (.int .i64 x) ∧ 0 ≤ x ∧ (zs.length : Int) + sumN szPartS (zs.take k) + x ≤ left ∧ m + k = zs.length) zs.length ?_ ?_
  ·exact ⟨0, hn h .mk, left - zs.length, up_self, Nat.le_refl _, zsm, zsm, by omega, by simp [sumN]; omega, by omega⟩
  ·rintro m e h' hks ⟨k, n, x, rfl, hnn, e5, e1, hx, hsum, hk⟩
   simp -dsimp -implicitDefEqProofs only [go_sem, rq1] at hks
   by_cases h2 : (k : Int) < (zs.length : Int)
   ·have h3 : k < zs.length := by omega
    have hst : sumN szPartS (zs.take (k + 1)) = sumN szPartS (zs.take k) + szPartS (zs.getD k default) := sumN_take (f := szPartS) h3
    repeat (first | rw [ko] | rw [kr] | simp -dsimp -implicitDefEqProofs only [go_sem, rq1, hks, e5, e1, h2, h3])
    refine pw_intro (szPartS_pw (hf2 _ (getD_mem h3)) ⟨by omega, by omega⟩) ?_
    rintro _ n2 hn2 ⟨x2, rfl, hx2⟩
    simp only [hn_up] at hn2
    repeat (first | rw [ko] | rw [kr] | simp -dsimp -implicitDefEqProofs only [go_sem, rq1])
    refine gz_dec (fun h4 => ?_) (fun h4 => ?_)
    ·repeat (first | rw [ko] | rw [kr] | simp -dsimp -implicitDefEqProofs only [go_sem])
     exact ⟨(by first | exact le_up (H2.le.refl _) (by omega) | exact le_up (le_up (H2.le.refl _) hnn) (by rw [hn_up]; omega)), ⟨_, rfl⟩, _, rfl, fun hh => by omega⟩
    ·repeat (first | rw [ko] | rw [kr] | simp -dsimp -implicitDefEqProofs only [go_sem, rq1, wrap_succ h3 hf1])
     exact nx_keep (m - 1) (by omega) zsm ⟨k + 1, n2, x2, up_up, by omega, zsm, zsm, by omega, by have := hx2 (by omega); omega, by omega⟩
   ·repeat (first | rw [ko] | rw [kr] | simp -dsimp -implicitDefEqProofs only [go_sem, rq1, hks, e5, e1, h2])
    refine ⟨le_up (H2.le.refl _) hnn, ⟨_, rfl⟩, x, rfl, fun _ => ?_⟩
    rw [List.take_of_length_le (by omega)] at hsum
    omega
theorem eqPartSS_pw {f f' : Adr} {zs : List (List LPart)} {h : H2} (hf : fitPartSS zs) : PW Tryz.prog W0 267 [.sl f 1 (rPartSS zs), .sl f' 1 (rPartSS zs)] h (fun y => y = .raw (.bool true)) := by
 obtain ⟨hf1, hf2⟩ := hf
 refine PW.scalar ?_
 refine begins [[0, 1], [0, 1], [], [0, 1], [0, 1, 5], [0, 1, 5], [0, 1, 5], [], []] Tryz.func267 rfl (rs := [.tmp 4]) rfl rfl ?_
 intro wf
 repeat (first | rw [ko] | rw [kr] | simp -dsimp -implicitDefEqProofs only [go_sem, rq1])
 refine lz_keep [0, 1] (fun m e h' => ∃ (k n : Nat), h' = h.up n ∧ hn h .mk ≤ n ∧ look e 5 .mk = .raw (.int .i64 k) ∧ m + k = zs.length) zs.length ?_ ?_
 ·exact ⟨0, hn h .mk, up_self, Nat.le_refl _, zsm, by omega⟩
 ·rintro m e h' hks ⟨k, n, rfl, hnn, e5, hk⟩
  simp -dsimp -implicitDefEqProofs only [go_sem, rq1] at hks
  by_cases h2 : (k : Int) < (zs.length : Int)
  ·have h3 : k < zs.length := by omega
   repeat (first | rw [ko] | rw [kr] | simp -dsimp -implicitDefEqProofs only [go_sem, rq1, hks, e5, h2])
   refine dq_intro [(0, []), (1, []), (2, []), (3, []), (4, []), (5, []), (6, []), (7, []), (8, []), (9, [])] (by kernel_rfl) ?_
   repeat (first | rw [ko] | rw [kr] | simp -dsimp -implicitDefEqProofs only [go_sem, rq1, h3])
   refine pw_intro (eqPartS_pw (hf2 _ (getD_mem h3))) ?_
   rintro _ n2 hn2 rfl
   simp only [hn_up] at hn2
   repeat (first | rw [ko] | rw [kr] | simp -dsimp -implicitDefEqProofs only [go_sem, rq1, wrap_succ h3 hf1])
   exact nx_keep (m - 1) (by omega) zsm ⟨k + 1, n2, up_up, by omega, zsm, by omega⟩
  ·repeat (first | rw [ko] | rw [kr] | simp -dsimp -implicitDefEqProofs only [go_sem, rq1, hks, e5, h2])
   exact ⟨le_up (H2.le.refl _) hnn, ⟨_, rfl⟩, rfl⟩
theorem toPartSS_new {f : Adr} {zs : List (List LPart)} {h : H2} (hs : szPartSS zs ≤ 1048576) : NewT Tryz.prog W0 266 [.sl f 1 (rPartSS zs)] h (.l 1 (rPartSS zs)) := by
 unfold szPartSS at hs
 have hE : ∀ a, (ePartS a).length = 1 := fun a => rfl
 refine begins [[0], [0], [0, 3], [0, 3, 4], [0, 3, 4], [0, 3, 4], [3]] Tryz.func266 rfl (rs := [.tmp 2]) rfl rfl ?_
 intro wf
 repeat (first | rw [ko] | rw [kr] | simp -dsimp -implicitDefEqProofs only [go_sem])
 refine make_intro Ai.ty_el174 Ai.ty_zr250 (by decide) ⟨by omega, by simp only [Int.toNat_natCast]; have : Ai.most = 1099511627776 := rfl; omega⟩ ?_
 repeat (first | rw [ko] | rw [kr] | simp -dsimp -implicitDefEqProofs only [go_sem, rq1])
 refine lz_keep [0, 3] (fun m e h' => ∃ (k : Nat) (cs : List X) (bs : List Nat), look e 4 .mk = .raw (.int .i64 k) ∧ m + k = zs.length ∧ hg h' (hn h .mk) .mk = some ⟨1, cs⟩ ∧ cs.length = zs.length * 1 ∧ OTs h' bs (cs.take (k * 1)) (((zs.take k).map ePartS).flatten) ∧ Bl (hn h .mk + 1) (hn h' .mk) bs ∧ h.le h' ∧ hn h .mk < hn h' .mk) zs.length ?_ ?_
 ·exact ⟨0, _, [], zsm, by omega, (by rw [hg_push, hoo]; rfl), by simp [rep_len], by simpa using OTs.nil, Bl.nil, le_push (H2.le.refl _), by rw [hn_push]; omega⟩
 ·rintro m e h' hks ⟨k, cs, bs, e4, hk, hrow, hcs, ho, hbl, hle, hlt⟩
  simp -dsimp -implicitDefEqProofs only [go_sem] at hks
  by_cases h2 : (k : Int) < (zs.length : Int)
  ·have h3 : k < zs.length := by omega
   have hsm : szPartS (zs.getD k default) ≤ sumN szPartS zs := sumN_mem (f := szPartS) (getD_mem h3)
   repeat (first | rw [ko] | rw [kr] | simp -dsimp -implicitDefEqProofs only [go_sem, rq1, hks, e4, h2, h3])
   refine wz_intro (toPartS_new (by omega)) ?_
   rintro y g2 ⟨l2, b2, o1, bl2⟩
   have hy1 := OT.okx o1
   have o2 := OTs.one o1
   have nn2 := l2.1
   have hyl : ([y]).length = 1 := (OTs.len o2).trans (hE _)
   have hyo := OTs.okx o2
   obtain ⟨w1, w2, w3⟩ := wrt_next hcs h3 hyl
   have row2 := (l2.2 (hn h .mk) hlt).trans hrow
   have hi2 : (0 : Int) ≤ (k : Int) ∧ (k : Int) < (zs.length : Int) := by omega
   rw [Nat.mul_one] at w1
   repeat (first | rw [ko] | rw [kr] | simp -dsimp -implicitDefEqProofs only [go_sem, rq1, row2, hi2, hyl, hyo, w1, hy1, wrap_succ h3 (by omega)])
   have hset : ∀ {b : Nat} {kk : OB}, b ≠ hn h .mk → (g2.set (hn h .mk) kk).get b = g2.get b := fun hb => by simp only [H2.set]; rw [if_neg hb]
   refine nx_keep (m - 1) (by omega) zsm ⟨k + 1, _, bs ++ b2, zsm, by omega, (by rw [hg_set, hoo]; rfl), (by rw [← Nat.mul_one k]; exact w2), ?_, ?_, le_set (hle.trans l2) (Nat.le_refl _), by simp -dsimp -implicitDefEqProofs only [go_sem] <;> omega⟩
   ·rw [show cs.take k = cs.take (k * 1) by rw [Nat.mul_one], show cs.drop (k + 1) = cs.drop (k * 1 + 1) by rw [Nat.mul_one]]; rw [w3, flat_next h3]
    refine OTs.append ((OTs.keep ho l2 hbl).frame fun b hb => hset (by have := (hbl.2 b hb).1; omega)) (o2.frame fun b hb => hset (by have := (bl2.2 b hb).1; omega))
   ·rw [hn_set]
    exact hbl.append bl2 (by omega) nn2
  ·repeat (first | rw [ko] | rw [kr] | simp -dsimp -implicitDefEqProofs only [go_sem, rq1, hks, e4, h2])
   have : k = zs.length := by omega
   subst this
   obtain ⟨q1, q2⟩ := OT.full hE hrow hcs ho hbl hlt
   exact ⟨hle, _, q1, q2⟩
structure LCell where
 keys : List (List LPart)
 values : List (List LPart)
instance : Inhabited LCell := ⟨⟨default, default⟩⟩
def eCell (c : LCell) : List T := [.l 1 (rPartSS c.keys), .l 1 (rPartSS c.values)]
def xCell (F : Nat → Adr) (c : LCell) : List X := [.sl (F 0) 1 (rPartSS c.keys), .sl (F 1) 1 (rPartSS c.values)]
theorem eCell_def {c : LCell} : eCell c = [.l 1 (rPartSS c.keys), .l 1 (rPartSS c.values)] := rfl
theorem xCell_def {F : Nat → Adr} {c : LCell} : xCell F c = [.sl (F 0) 1 (rPartSS c.keys), .sl (F 1) 1 (rPartSS c.values)] := rfl
def szCell (c : LCell) : Nat := szPartSS c.keys + szPartSS c.values
def fitCell (c : LCell) : Prop := fitPartSS c.keys ∧ fitPartSS c.values
attribute [go_sem] eCell_def xCell_def
theorem invCell {g : H2} {bs : List Nat} {ys : List X} {c : LCell} (o : OTs g bs ys (eCell c)) : ∃ b0 s0 b1 s1, ys = [s0, s1] ∧ bs = b0 ++ b1 ∧ OT g b0 s0 (.l 1 (rPartSS c.keys)) ∧ OT g b1 s1 (.l 1 (rPartSS c.values)) := by
 unfold eCell at o
 obtain ⟨b0, bs0, s0, ys0, rfl, rfl, a0, o0⟩ := OTs.head o
 obtain ⟨b1, bs1, s1, ys1, rfl, rfl, a1, o1⟩ := OTs.head o0
 obtain ⟨rfl, rfl⟩ := OTs.tail0 o1
 exact ⟨_, _, _, _, rfl, by simp only [List.append_nil], a0, a1⟩
theorem outCell {g : H2} {c : LCell} {b0 b1 : List Nat} {s0 s1 : X} (a0 : OT g b0 s0 (.l 1 (rPartSS c.keys))) (a1 : OT g b1 s1 (.l 1 (rPartSS c.values))) : OTs g (b0 ++ b1) [s0, s1] (eCell c) := by
 have := OTs.cons a0 (OTs.cons a1 (OTs.nil))
 simpa only [eCell, List.append_nil, List.nil_append] using this
theorem szCell_ok {F : Nat → Adr} {c : LCell} {left : Int} {h : H2} (hf : fitCell c) (hl : 0 ≤ left ∧ left ≤ 1048576) : PW Tryz.prog W0 245 [.st (xCell F c), .raw (.int .i64 left)] h (fun y => ∃ k : Int, y = .raw (.int .i64 k) ∧ (0 ≤ k → (szCell c : Int) + k ≤ left)) := by
 unfold fitCell at hf
 refine PW.scalar ?_
 refine begins [[0, 1], [1, 2], [1, 2], [], [1, 2], [1], [], [1]] Tryz.func245 rfl (rs := [.tmp 4]) rfl rfl ?_
 intro wf
 repeat (first | rw [ko] | rw [kr] | simp -dsimp -implicitDefEqProofs only [go_sem, rq1])
 refine pw_intro (szPartSS_pw  hf.1 ⟨by omega, by omega⟩) ?_
 rintro _ n0 hn0 ⟨k0, rfl, hk0⟩
 repeat (first | rw [ko] | rw [kr] | simp -dsimp -implicitDefEqProofs only [go_sem, rq1])
 refine gz_dec (fun q0 => ?_) (fun q0 => ?_)
 ·repeat (first | rw [ko] | rw [kr] | simp -dsimp -implicitDefEqProofs only [go_sem])
  exact ⟨zale, ⟨_, rfl⟩, _, rfl, fun hh => by omega⟩
 repeat (first | rw [ko] | rw [kr] | simp -dsimp -implicitDefEqProofs only [go_sem, rq1])
 refine pw_intro (szPartSS_pw  hf.2 ⟨by omega, by omega⟩) ?_
 rintro _ n1 hn1 ⟨k1, rfl, hk1⟩
 repeat (first | rw [ko] | rw [kr] | simp -dsimp -implicitDefEqProofs only [go_sem])
 refine gz_dec (fun q1 => ?_) (fun q1 => ?_)
 ·repeat (first | rw [ko] | rw [kr] | simp -dsimp -implicitDefEqProofs only [go_sem])
  exact ⟨zale, ⟨_, rfl⟩, _, rfl, fun hh => by omega⟩
 repeat (first | rw [ko] | rw [kr] | simp -dsimp -implicitDefEqProofs only [go_sem, rq1])
 exact ⟨zale, ⟨_, rfl⟩, _, rfl, fun hh => by unfold szCell; omega⟩
theorem eqCell_ok {F F' : Nat → Adr} {c : LCell} {h : H2} (hf : fitCell c) : PW Tryz.prog W0 248 [.st (xCell F c), .st (xCell F' c)] h (fun y => y = .raw (.bool true)) := by
 unfold fitCell at hf
 refine PW.scalar ?_
 refine begins [[0, 1], [2, 3], [], [2, 3], [], []] Tryz.func248 rfl (rs := [.tmp 4]) rfl rfl ?_
 intro wf
 repeat (first | rw [ko] | rw [kr] | simp -dsimp -implicitDefEqProofs only [go_sem])
 refine pw_intro (eqPartSS_pw  hf.1) ?_
 rintro _ n0 hn0 rfl
 repeat (first | rw [ko] | rw [kr] | simp -dsimp -implicitDefEqProofs only [go_sem, rq1])
 refine pw_intro (eqPartSS_pw  hf.2) ?_
 rintro _ n1 hn1 rfl
 repeat (first | rw [ko] | rw [kr] | simp -dsimp -implicitDefEqProofs only [go_sem])
 exact ⟨zale, ⟨_, rfl⟩, rfl⟩
theorem toCell_ok {F : Nat → Adr} {c : LCell} {h : H2} (hs : szCell c ≤ 1048576) : NewS Tryz.prog W0 247 [.st (xCell F c)] h (eCell c) := by
 unfold szCell at hs
 refine begins [[0], [1, 2], [1, 2, 3], [1, 2, 3], [2, 3]] Tryz.func247 rfl (rs := [.cell 2 176]) rfl rfl ?_
 intro wf
 repeat (first | rw [ko] | rw [kr] | simp -dsimp -implicitDefEqProofs only [go_sem])
 refine wz_intro (toPartSS_new  (by omega)) ?_
 rintro s0 g0 ⟨l0, b0, o0, bl0⟩
 have ce0 := OT.cell o0
 have n0 := l0.n
 have a00 := l0.2 (hn h .mk) (by simp only [hn_push]; omega)
 have a01 := l0.2 (hn h .mk + 1) (by simp only [hn_push]; omega)
 have a02 := l0.2 (hn h .mk + 1 + 1) (by simp only [hn_push]; omega)
 simp -dsimp -implicitDefEqProofs only [go_sem, hoo] at n0 a00 a01 a02
 have L0 : h.le g0 := H2.le.trans zale l0
 repeat (first | rw [ko] | rw [kr] | simp -dsimp -implicitDefEqProofs only [go_sem, rq1, a00, a02, ce0])
 refine wz_intro (toPartSS_new  (by omega)) ?_
 rintro s1 g1 ⟨l1, b1, o1, bl1⟩
 have ce1 := OT.cell o1
 have n1 := l1.n
 have a10 := l1.2 (hn h .mk) (by simp only [hn_set]; omega)
 have a11 := l1.2 (hn h .mk + 1) (by simp only [hn_set]; omega)
 have a12 := l1.2 (hn h .mk + 1 + 1) (by simp only [hn_set]; omega)
 simp -dsimp -implicitDefEqProofs only [go_sem, a00, a01, hoo] at n1 a10 a11 a12
 have L1 : h.le g1 := H2.le.trans zale l1
 repeat (first | rw [ko] | rw [kr] | simp -dsimp -implicitDefEqProofs only [go_sem, rq1, rq2, a11, a12, ce0, ce1])
 refine ⟨zale, _, b0 ++ b1, rfl, outCell (c := c) ?_ ?_, ?_⟩
 ·refine OT.frame o0 fun b hb => ?_
  have hbl := bl0.2 b (hb)
  simp only [hn_push] at hbl
  simp only [H2.set]
  rw [if_neg (by omega), if_neg (by omega)]
  rw [show g1.get b = _ from l1.2 b (by simp only [hn_set]; omega)]
  simp only [hg, H2.set]
  rw [if_neg (by omega)]
 ·refine OT.frame o1 fun b hb => ?_
  have hbl := bl1.2 b (hb)
  simp only [hn_set] at hbl
  simp only [H2.set]
  rw [if_neg (by omega), if_neg (by omega)]
 ·simp only [hn_set]
  have m0 := bl0
  simp only [hn_push] at m0
  have m1 := bl1
  simp only [hn_set] at m1
  have := ((Bl.append m0 m1 (by omega) (by omega))).wide (N' := hn h .mk) (by omega) (Nat.le_refl _)
  simpa only [List.append_assoc] using this
def rCellS (zs : List LCell) : List (List T) := zs.map eCell
theorem rCellS_len {zs : List LCell} : (rCellS zs).length = zs.length := by simp [rCellS]
theorem rCellS_el {zs : List LCell} {i : Nat} (hi : i < zs.length) : el (rCellS zs) i = eCell (zs.getD i default) := el_map hi
attribute [go_sem] rCellS_len rCellS_el
def szCellS (zs : List LCell) : Nat := zs.length + sumN szCell zs
def fitCellS (zs : List LCell) : Prop := zs.length ≤ 9223372036854775807 ∧ ∀ x ∈ zs, fitCell x
theorem szCellS_pw {f : Adr} {zs : List LCell} {left : Int} {h : H2} (hf : fitCellS zs) (hl : 0 ≤ left ∧ left ≤ 1048576) : PW Tryz.prog W0 215 [.sl f 2 (rCellS zs), .raw (.int .i64 left)] h (fun y => ∃ k : Int, y = .raw (.int .i64 k) ∧ (0 ≤ k → (szCellS zs : Int) + k ≤ left)) := by
 obtain ⟨hf1, hf2⟩ := hf
 unfold szCellS
 have hw : IntKind.i64.wrap (left - zs.length) = left - zs.length := by rw [wrap_i64] <;> omega
 refine PW.scalar ?_
 refine begins [[0, 1], [0, 1], [0, 1], [], [0, 1], [0, 1, 5], [0, 1, 5], [0, 1, 5], [0, 1, 5], [], [1]] Tryz.func215 rfl (rs := [.tmp 4]) rfl rfl ?_
 intro wf
 repeat (first | rw [ko] | rw [kr] | simp -dsimp -implicitDefEqProofs only [go_sem, rq1, hw])
 refine gz_dec (fun h1 => ?_) (fun h1 => ?_)
 ·repeat (first | rw [ko] | rw [kr] | simp -dsimp -implicitDefEqProofs only [go_sem])
  exact ⟨H2.le.refl _, ⟨_, rfl⟩, _, rfl, fun hh => by omega⟩
 ·repeat (first | rw [ko] | rw [kr] | simp -dsimp -implicitDefEqProofs only [go_sem, rq1])
  refine lz_keep [0] (fun m e h' => ∃ (k n : Nat) (x : Int), h' = h.up n ∧ hn h .mk ≤ n ∧ look e 5 .mk = .raw (.int .i64 k) ∧ look e 1 .mk = .raw (.int .i64 x) ∧ 0 ≤ x ∧ (zs.length : Int) + sumN szCell (zs.take k) + x ≤ left ∧ m + k = zs.length) zs.length ?_ ?_
  ·exact ⟨0, hn h .mk, left - zs.length, up_self, Nat.le_refl _, zsm, zsm, by omega, by simp [sumN]; omega, by omega⟩
  ·rintro m e h' hks ⟨k, n, x, rfl, hnn, e5, e1, hx, hsum, hk⟩
   simp -dsimp -implicitDefEqProofs only [go_sem, rq1] at hks
   by_cases h2 : (k : Int) < (zs.length : Int)
   ·have h3 : k < zs.length := by omega
    have hst : sumN szCell (zs.take (k + 1)) = sumN szCell (zs.take k) + szCell (zs.getD k default) := sumN_take (f := szCell) h3
    repeat (first | rw [ko] | rw [kr] | simp -dsimp -implicitDefEqProofs only [go_sem, rq1, rq2, rq3, hks, e5, e1, h2, h3])
    refine pw_intro (szCell_ok (F := under (under f k)) (c := zs.getD k default) (hf2 _ (getD_mem h3)) ⟨by omega, by omega⟩) ?_
    rintro _ n2 hn2 ⟨x2, rfl, hx2⟩
    simp only [hn_up] at hn2
    repeat (first | rw [ko] | rw [kr] | simp -dsimp -implicitDefEqProofs only [go_sem, rq1])
    refine gz_dec (fun h4 => ?_) (fun h4 => ?_)
    ·repeat (first | rw [ko] | rw [kr] | simp -dsimp -implicitDefEqProofs only [go_sem])
     exact ⟨(by first | exact le_up (H2.le.refl _) (by omega) | exact le_up (le_up (H2.le.refl _) hnn) (by rw [hn_up]; omega)), ⟨_, rfl⟩, _, rfl, fun hh => by omega⟩
    ·repeat (first | rw [ko] | rw [kr] | simp -dsimp -implicitDefEqProofs only [go_sem, rq1, wrap_succ h3 hf1])
     exact nx_keep (m - 1) (by omega) zsm ⟨k + 1, n2, x2, up_up, by omega, zsm, zsm, by omega, by have := hx2 (by omega); omega, by omega⟩
   ·repeat (first | rw [ko] | rw [kr] | simp -dsimp -implicitDefEqProofs only [go_sem, rq1, hks, e5, e1, h2])
    refine ⟨le_up (H2.le.refl _) hnn, ⟨_, rfl⟩, x, rfl, fun _ => ?_⟩
    rw [List.take_of_length_le (by omega)] at hsum
    omega
theorem eqCellS_pw {f f' : Adr} {zs : List LCell} {h : H2} (hf : fitCellS zs) : PW Tryz.prog W0 220 [.sl f 2 (rCellS zs), .sl f' 2 (rCellS zs)] h (fun y => y = .raw (.bool true)) := by
 obtain ⟨hf1, hf2⟩ := hf
 refine PW.scalar ?_
 refine begins [[0, 1], [0, 1], [], [0, 1], [0, 1, 5], [0, 1, 5], [0, 1, 5], [], []] Tryz.func220 rfl (rs := [.tmp 4]) rfl rfl ?_
 intro wf
 repeat (first | rw [ko] | rw [kr] | simp -dsimp -implicitDefEqProofs only [go_sem, rq1])
 refine lz_keep [0, 1] (fun m e h' => ∃ (k n : Nat), h' = h.up n ∧ hn h .mk ≤ n ∧ look e 5 .mk = .raw (.int .i64 k) ∧ m + k = zs.length) zs.length ?_ ?_
 ·exact ⟨0, hn h .mk, up_self, Nat.le_refl _, zsm, by omega⟩
 ·rintro m e h' hks ⟨k, n, rfl, hnn, e5, hk⟩
  simp -dsimp -implicitDefEqProofs only [go_sem, rq1] at hks
  by_cases h2 : (k : Int) < (zs.length : Int)
  ·have h3 : k < zs.length := by omega
   repeat (first | rw [ko] | rw [kr] | simp -dsimp -implicitDefEqProofs only [go_sem, rq1, hks, e5, h2])
   refine dq_intro [(0, []), (1, []), (2, []), (3, []), (4, []), (5, []), (6, []), (7, []), (8, []), (9, [])] (by kernel_rfl) ?_
   repeat (first | rw [ko] | rw [kr] | simp -dsimp -implicitDefEqProofs only [go_sem, rq1, rq2, rq3, h3])
   refine pw_intro (eqCell_ok (F := under (under f k)) (F' := under (under f' k)) (c := zs.getD k default) (hf2 _ (getD_mem h3))) ?_
   rintro _ n2 hn2 rfl
   simp only [hn_up] at hn2
   repeat (first | rw [ko] | rw [kr] | simp -dsimp -implicitDefEqProofs only [go_sem, rq1, wrap_succ h3 hf1])
   exact nx_keep (m - 1) (by omega) zsm ⟨k + 1, n2, up_up, by omega, zsm, by omega⟩
  ·repeat (first | rw [ko] | rw [kr] | simp -dsimp -implicitDefEqProofs only [go_sem, rq1, hks, e5, h2])
   exact ⟨le_up (H2.le.refl _) hnn, ⟨_, rfl⟩, rfl⟩
theorem toCellS_new {f : Adr} {zs : List LCell} {h : H2} (hs : szCellS zs ≤ 1048576) : NewT Tryz.prog W0 218 [.sl f 2 (rCellS zs)] h (.l 2 (rCellS zs)) := by
 unfold szCellS at hs
 have hE : ∀ a, (eCell a).length = 2 := fun a => rfl
 refine begins [[0], [0], [0, 3], [0, 3, 4], [0, 3, 4], [0, 3, 4], [3]] Tryz.func218 rfl (rs := [.tmp 2]) rfl rfl ?_
 intro wf
 repeat (first | rw [ko] | rw [kr] | simp -dsimp -implicitDefEqProofs only [go_sem])
 refine make_intro Ai.ty_el171 Ai.ty_zr176 (by decide) ⟨by omega, by simp only [Int.toNat_natCast]; have : Ai.most = 1099511627776 := rfl; omega⟩ ?_
 repeat (first | rw [ko] | rw [kr] | simp -dsimp -implicitDefEqProofs only [go_sem, rq1])
 refine lz_keep [0, 3] (fun m e h' => ∃ (k : Nat) (cs : List X) (bs : List Nat), look e 4 .mk = .raw (.int .i64 k) ∧ m + k = zs.length ∧ hg h' (hn h .mk) .mk = some ⟨2, cs⟩ ∧ cs.length = zs.length * 2 ∧ OTs h' bs (cs.take (k * 2)) (((zs.take k).map eCell).flatten) ∧ Bl (hn h .mk + 1) (hn h' .mk) bs ∧ h.le h' ∧ hn h .mk < hn h' .mk) zs.length ?_ ?_
 ·exact ⟨0, _, [], zsm, by omega, (by rw [hg_push, hoo]; rfl), by simp [rep_len], by simpa using OTs.nil, Bl.nil, le_push (H2.le.refl _), by rw [hn_push]; omega⟩
 ·rintro m e h' hks ⟨k, cs, bs, e4, hk, hrow, hcs, ho, hbl, hle, hlt⟩
  simp -dsimp -implicitDefEqProofs only [go_sem] at hks
  by_cases h2 : (k : Int) < (zs.length : Int)
  ·have h3 : k < zs.length := by omega
   have hsm : szCell (zs.getD k default) ≤ sumN szCell zs := sumN_mem (f := szCell) (getD_mem h3)
   repeat (first | rw [ko] | rw [kr] | simp -dsimp -implicitDefEqProofs only [go_sem, rq1, rq2, rq3, hks, e4, h2, h3])
   refine wz_intro (toCell_ok (F := under (under f k)) (c := zs.getD k default) (by omega)) ?_
   rintro _ g2 ⟨l2, ys, b2, rfl, o2, bl2⟩
   have nn2 := l2.1
   have hyl : (ys).length = 2 := (OTs.len o2).trans (hE _)
   have hyo := OTs.okx o2
   obtain ⟨w1, w2, w3⟩ := wrt_next hcs h3 hyl
   have row2 := (l2.2 (hn h .mk) hlt).trans hrow
   have hi2 : (0 : Int) ≤ (k : Int) ∧ (k : Int) < (zs.length : Int) := by omega
   repeat (first | rw [ko] | rw [kr] | simp -dsimp -implicitDefEqProofs only [go_sem, rq1, row2, hi2, hyl, hyo, w1, wrap_succ h3 (by omega)])
   have hset : ∀ {b : Nat} {kk : OB}, b ≠ hn h .mk → (g2.set (hn h .mk) kk).get b = g2.get b := fun hb => by simp only [H2.set]; rw [if_neg hb]
   refine nx_keep (m - 1) (by omega) zsm ⟨k + 1, _, bs ++ b2, zsm, by omega, (by rw [hg_set, hoo]; rfl), w2, ?_, ?_, le_set (hle.trans l2) (Nat.le_refl _), by simp -dsimp -implicitDefEqProofs only [go_sem] <;> omega⟩
   ·rw [w3, flat_next h3]
    refine OTs.append ((OTs.keep ho l2 hbl).frame fun b hb => hset (by have := (hbl.2 b hb).1; omega)) (o2.frame fun b hb => hset (by have := (bl2.2 b hb).1; omega))
   ·rw [hn_set]
    exact hbl.append bl2 (by omega) nn2
  ·repeat (first | rw [ko] | rw [kr] | simp -dsimp -implicitDefEqProofs only [go_sem, rq1, hks, e4, h2])
   have : k = zs.length := by omega
   subst this
   obtain ⟨q1, q2⟩ := OT.full hE hrow hcs ho hbl hlt
   exact ⟨hle, _, q1, q2⟩
def eCellS (zs : List LCell) : List T := [.l 2 (rCellS zs)]
theorem eCellS_def {zs : List LCell} : eCellS zs = [.l 2 (rCellS zs)] := rfl
attribute [go_sem] eCellS_def
def rCellSS (zs : List (List LCell)) : List (List T) := zs.map eCellS
theorem rCellSS_len {zs : List (List LCell)} : (rCellSS zs).length = zs.length := by simp [rCellSS]
theorem rCellSS_el {zs : List (List LCell)} {i : Nat} (hi : i < zs.length) : el (rCellSS zs) i = eCellS (zs.getD i default) := el_map hi
attribute [go_sem] rCellSS_len rCellSS_el
def szCellSS (zs : List (List LCell)) : Nat := zs.length + sumN szCellS zs
def fitCellSS (zs : List (List LCell)) : Prop := zs.length ≤ 9223372036854775807 ∧ ∀ x ∈ zs, fitCellS x
theorem szCellSS_pw {f : Adr} {zs : List (List LCell)} {left : Int} {h : H2} (hf : fitCellSS zs) (hl : 0 ≤ left ∧ left ≤ 1048576) : PW Tryz.prog W0 156 [.sl f 1 (rCellSS zs), .raw (.int .i64 left)] h (fun y => ∃ k : Int, y = .raw (.int .i64 k) ∧ (0 ≤ k → (szCellSS zs : Int) + k ≤ left)) := by
 obtain ⟨hf1, hf2⟩ := hf
 unfold szCellSS
 have hw : IntKind.i64.wrap (left - zs.length) = left - zs.length := by rw [wrap_i64] <;> omega
 refine PW.scalar ?_
 refine begins [[0, 1], [0, 1], [0, 1], [], [0, 1], [0, 1, 5], [0, 1, 5], [0, 1, 5], [0, 1, 5], [], [1]] Tryz.func156 rfl (rs := [.tmp 4]) rfl rfl ?_
 intro wf
 repeat (first | rw [ko] | rw [kr] | simp -dsimp -implicitDefEqProofs only [go_sem, rq1, hw])
 refine gz_dec (fun h1 => ?_) (fun h1 => ?_)
 ·repeat (first | rw [ko] | rw [kr] | simp -dsimp -implicitDefEqProofs only [go_sem])
  exact ⟨H2.le.refl _, ⟨_, rfl⟩, _, rfl, fun hh => by omega⟩
 ·repeat (first | rw [ko] | rw [kr] | simp -dsimp -implicitDefEqProofs only [go_sem, rq1])
  refine lz_keep [0] (fun m e h' => ∃ (k n : Nat) (x : Int), h' = h.up n ∧ hn h .mk ≤ n ∧ look e 5 .mk = .raw (.int .i64 k) ∧ look e 1 .mk = .raw (.int .i64 x) ∧ 0 ≤ x ∧ (zs.length : Int) + sumN szCellS (zs.take k) + x ≤ left ∧ m + k = zs.length) zs.length ?_ ?_
  ·exact ⟨0, hn h .mk, left - zs.length, up_self, Nat.le_refl _, zsm, zsm, by omega, by simp [sumN]; omega, by omega⟩
  ·rintro m e h' hks ⟨k, n, x, rfl, hnn, e5, e1, hx, hsum, hk⟩
   simp -dsimp -implicitDefEqProofs only [go_sem, rq1] at hks
   by_cases h2 : (k : Int) < (zs.length : Int)
   ·have h3 : k < zs.length := by omega
    have hst : sumN szCellS (zs.take (k + 1)) = sumN szCellS (zs.take k) + szCellS (zs.getD k default) := sumN_take (f := szCellS) h3
    repeat (first | rw [ko] | rw [kr] | simp -dsimp -implicitDefEqProofs only [go_sem, rq1, hks, e5, e1, h2, h3])
    refine pw_intro (szCellS_pw (hf2 _ (getD_mem h3)) ⟨by omega, by omega⟩) ?_
    rintro _ n2 hn2 ⟨x2, rfl, hx2⟩
    simp only [hn_up] at hn2
    repeat (first | rw [ko] | rw [kr] | simp -dsimp -implicitDefEqProofs only [go_sem, rq1])
    refine gz_dec (fun h4 => ?_) (fun h4 => ?_)
    ·repeat (first | rw [ko] | rw [kr] | simp -dsimp -implicitDefEqProofs only [go_sem])
     exact ⟨(by first | exact le_up (H2.le.refl _) (by omega) | exact le_up (le_up (H2.le.refl _) hnn) (by rw [hn_up]; omega)), ⟨_, rfl⟩, _, rfl, fun hh => by omega⟩
    ·repeat (first | rw [ko] | rw [kr] | simp -dsimp -implicitDefEqProofs only [go_sem, rq1, wrap_succ h3 hf1])
     exact nx_keep (m - 1) (by omega) zsm ⟨k + 1, n2, x2, up_up, by omega, zsm, zsm, by omega, by have := hx2 (by omega); omega, by omega⟩
   ·repeat (first | rw [ko] | rw [kr] | simp -dsimp -implicitDefEqProofs only [go_sem, rq1, hks, e5, e1, h2])
    refine ⟨le_up (H2.le.refl _) hnn, ⟨_, rfl⟩, x, rfl, fun _ => ?_⟩
    rw [List.take_of_length_le (by omega)] at hsum
    omega
theorem eqCellSS_pw {f f' : Adr} {zs : List (List LCell)} {h : H2} (hf : fitCellSS zs) : PW Tryz.prog W0 166 [.sl f 1 (rCellSS zs), .sl f' 1 (rCellSS zs)] h (fun y => y = .raw (.bool true)) := by
 obtain ⟨hf1, hf2⟩ := hf
 refine PW.scalar ?_
 refine begins [[0, 1], [0, 1], [], [0, 1], [0, 1, 5], [0, 1, 5], [0, 1, 5], [], []] Tryz.func166 rfl (rs := [.tmp 4]) rfl rfl ?_
 intro wf
 repeat (first | rw [ko] | rw [kr] | simp -dsimp -implicitDefEqProofs only [go_sem, rq1])
 refine lz_keep [0, 1] (fun m e h' => ∃ (k n : Nat), h' = h.up n ∧ hn h .mk ≤ n ∧ look e 5 .mk = .raw (.int .i64 k) ∧ m + k = zs.length) zs.length ?_ ?_
 ·exact ⟨0, hn h .mk, up_self, Nat.le_refl _, zsm, by omega⟩
 ·rintro m e h' hks ⟨k, n, rfl, hnn, e5, hk⟩
  simp -dsimp -implicitDefEqProofs only [go_sem, rq1] at hks
  by_cases h2 : (k : Int) < (zs.length : Int)
  ·have h3 : k < zs.length := by omega
   repeat (first | rw [ko] | rw [kr] | simp -dsimp -implicitDefEqProofs only [go_sem, rq1, hks, e5, h2])
   refine dq_intro [(0, []), (1, []), (2, []), (3, []), (4, []), (5, []), (6, []), (7, []), (8, []), (9, [])] (by kernel_rfl) ?_
   repeat (first | rw [ko] | rw [kr] | simp -dsimp -implicitDefEqProofs only [go_sem, rq1, h3])
   refine pw_intro (eqCellS_pw (hf2 _ (getD_mem h3))) ?_
   rintro _ n2 hn2 rfl
   simp only [hn_up] at hn2
   repeat (first | rw [ko] | rw [kr] | simp -dsimp -implicitDefEqProofs only [go_sem, rq1, wrap_succ h3 hf1])
   exact nx_keep (m - 1) (by omega) zsm ⟨k + 1, n2, up_up, by omega, zsm, by omega⟩
  ·repeat (first | rw [ko] | rw [kr] | simp -dsimp -implicitDefEqProofs only [go_sem, rq1, hks, e5, h2])
   exact ⟨le_up (H2.le.refl _) hnn, ⟨_, rfl⟩, rfl⟩
theorem toCellSS_new {f : Adr} {zs : List (List LCell)} {h : H2} (hs : szCellSS zs ≤ 1048576) : NewT Tryz.prog W0 164 [.sl f 1 (rCellSS zs)] h (.l 1 (rCellSS zs)) := by
 unfold szCellSS at hs
 have hE : ∀ a, (eCellS a).length = 1 := fun a => rfl
 refine begins [[0], [0], [0, 3], [0, 3, 4], [0, 3, 4], [0, 3, 4], [3]] Tryz.func164 rfl (rs := [.tmp 2]) rfl rfl ?_
 intro wf
 repeat (first | rw [ko] | rw [kr] | simp -dsimp -implicitDefEqProofs only [go_sem])
 refine make_intro Ai.ty_el36 Ai.ty_zr171 (by decide) ⟨by omega, by simp only [Int.toNat_natCast]; have : Ai.most = 1099511627776 := rfl; omega⟩ ?_
 repeat (first | rw [ko] | rw [kr] | simp -dsimp -implicitDefEqProofs only [go_sem, rq1])
 refine lz_keep [0, 3] (fun m e h' => ∃ (k : Nat) (cs : List X) (bs : List Nat), look e 4 .mk = .raw (.int .i64 k) ∧ m + k = zs.length ∧ hg h' (hn h .mk) .mk = some ⟨1, cs⟩ ∧ cs.length = zs.length * 1 ∧ OTs h' bs (cs.take (k * 1)) (((zs.take k).map eCellS).flatten) ∧ Bl (hn h .mk + 1) (hn h' .mk) bs ∧ h.le h' ∧ hn h .mk < hn h' .mk) zs.length ?_ ?_
 ·exact ⟨0, _, [], zsm, by omega, (by rw [hg_push, hoo]; rfl), by simp [rep_len], by simpa using OTs.nil, Bl.nil, le_push (H2.le.refl _), by rw [hn_push]; omega⟩
 ·rintro m e h' hks ⟨k, cs, bs, e4, hk, hrow, hcs, ho, hbl, hle, hlt⟩
  simp -dsimp -implicitDefEqProofs only [go_sem] at hks
  by_cases h2 : (k : Int) < (zs.length : Int)
  ·have h3 : k < zs.length := by omega
   have hsm : szCellS (zs.getD k default) ≤ sumN szCellS zs := sumN_mem (f := szCellS) (getD_mem h3)
   repeat (first | rw [ko] | rw [kr] | simp -dsimp -implicitDefEqProofs only [go_sem, rq1, hks, e4, h2, h3])
   refine wz_intro (toCellS_new (by omega)) ?_
   rintro y g2 ⟨l2, b2, o1, bl2⟩
   have hy1 := OT.okx o1
   have o2 := OTs.one o1
   have nn2 := l2.1
   have hyl : ([y]).length = 1 := (OTs.len o2).trans (hE _)
   have hyo := OTs.okx o2
   obtain ⟨w1, w2, w3⟩ := wrt_next hcs h3 hyl
   have row2 := (l2.2 (hn h .mk) hlt).trans hrow
   have hi2 : (0 : Int) ≤ (k : Int) ∧ (k : Int) < (zs.length : Int) := by omega
   rw [Nat.mul_one] at w1
   repeat (first | rw [ko] | rw [kr] | simp -dsimp -implicitDefEqProofs only [go_sem, rq1, row2, hi2, hyl, hyo, w1, hy1, wrap_succ h3 (by omega)])
   have hset : ∀ {b : Nat} {kk : OB}, b ≠ hn h .mk → (g2.set (hn h .mk) kk).get b = g2.get b := fun hb => by simp only [H2.set]; rw [if_neg hb]
   refine nx_keep (m - 1) (by omega) zsm ⟨k + 1, _, bs ++ b2, zsm, by omega, (by rw [hg_set, hoo]; rfl), (by rw [← Nat.mul_one k]; exact w2), ?_, ?_, le_set (hle.trans l2) (Nat.le_refl _), by simp -dsimp -implicitDefEqProofs only [go_sem] <;> omega⟩
   ·rw [show cs.take k = cs.take (k * 1) by rw [Nat.mul_one], show cs.drop (k + 1) = cs.drop (k * 1 + 1) by rw [Nat.mul_one]]; rw [w3, flat_next h3]
    refine OTs.append ((OTs.keep ho l2 hbl).frame fun b hb => hset (by have := (hbl.2 b hb).1; omega)) (o2.frame fun b hb => hset (by have := (bl2.2 b hb).1; omega))
   ·rw [hn_set]
    exact hbl.append bl2 (by omega) nn2
  ·repeat (first | rw [ko] | rw [kr] | simp -dsimp -implicitDefEqProofs only [go_sem, rq1, hks, e4, h2])
   have : k = zs.length := by omega
   subst this
   obtain ⟨q1, q2⟩ := OT.full hE hrow hcs ho hbl hlt
   exact ⟨hle, _, q1, q2⟩
structure LStore where
 refs : List Int
 pages : List (List LCell)
instance : Inhabited LStore := ⟨⟨default, default⟩⟩
def eStore (c : LStore) : List T := [.l 1 (ints c.refs), .l 1 (rCellSS c.pages)]
def xStore (F : Nat → Adr) (c : LStore) : List X := [.sl (F 0) 1 (ints c.refs), .sl (F 1) 1 (rCellSS c.pages)]
theorem xStore_def {F : Nat → Adr} {c : LStore} : xStore F c = [.sl (F 0) 1 (ints c.refs), .sl (F 1) 1 (rCellSS c.pages)] := rfl
def szStore (c : LStore) : Nat := c.refs.length + szCellSS c.pages
def fitStore (c : LStore) : Prop := c.refs.length ≤ 9223372036854775807 ∧ fitCellSS c.pages
attribute [go_sem] xStore_def
theorem invStore {g : H2} {bs : List Nat} {ys : List X} {c : LStore} (o : OTs g bs ys (eStore c)) : ∃ b0 s0 b1 s1, ys = [s0, s1] ∧ bs = b0 ++ b1 ∧ OT g b0 s0 (.l 1 (ints c.refs)) ∧ OT g b1 s1 (.l 1 (rCellSS c.pages)) := by
 unfold eStore at o
 obtain ⟨b0, bs0, s0, ys0, rfl, rfl, a0, o0⟩ := OTs.head o
 obtain ⟨b1, bs1, s1, ys1, rfl, rfl, a1, o1⟩ := OTs.head o0
 obtain ⟨rfl, rfl⟩ := OTs.tail0 o1
 exact ⟨_, _, _, _, rfl, by simp only [List.append_nil], a0, a1⟩
theorem outStore {g : H2} {c : LStore} {b0 b1 : List Nat} {s0 s1 : X} (a0 : OT g b0 s0 (.l 1 (ints c.refs))) (a1 : OT g b1 s1 (.l 1 (rCellSS c.pages))) : OTs g (b0 ++ b1) [s0, s1] (eStore c) := by
 have := OTs.cons a0 (OTs.cons a1 (OTs.nil))
 simpa only [eStore, List.append_nil, List.nil_append] using this
theorem szStore_ok {F : Nat → Adr} {c : LStore} {left : Int} {h : H2} (hf : fitStore c) (hl : 0 ≤ left ∧ left ≤ 1048576) : PW Tryz.prog W0 62 [.st (xStore F c), .raw (.int .i64 left)] h (fun y => ∃ k : Int, y = .raw (.int .i64 k) ∧ (0 ≤ k → (szStore c : Int) + k ≤ left)) := by
 unfold fitStore at hf
 refine PW.scalar ?_
 refine begins [[0, 1], [1, 2], [1, 2], [], [1, 2], [1], [], [1]] Tryz.func62 rfl (rs := [.tmp 4]) rfl rfl ?_
 intro wf
 repeat (first | rw [ko] | rw [kr] | simp -dsimp -implicitDefEqProofs only [go_sem, rq1])
 refine pw_intro (szIntS_pw  hf.1 ⟨by omega, by omega⟩) ?_
 rintro _ n0 hn0 ⟨k0, rfl, hk0⟩
 repeat (first | rw [ko] | rw [kr] | simp -dsimp -implicitDefEqProofs only [go_sem, rq1])
 refine gz_dec (fun q0 => ?_) (fun q0 => ?_)
 ·repeat (first | rw [ko] | rw [kr] | simp -dsimp -implicitDefEqProofs only [go_sem])
  exact ⟨zale, ⟨_, rfl⟩, _, rfl, fun hh => by omega⟩
 repeat (first | rw [ko] | rw [kr] | simp -dsimp -implicitDefEqProofs only [go_sem, rq1])
 refine pw_intro (szCellSS_pw  hf.2 ⟨by omega, by omega⟩) ?_
 rintro _ n1 hn1 ⟨k1, rfl, hk1⟩
 repeat (first | rw [ko] | rw [kr] | simp -dsimp -implicitDefEqProofs only [go_sem])
 refine gz_dec (fun q1 => ?_) (fun q1 => ?_)
 ·repeat (first | rw [ko] | rw [kr] | simp -dsimp -implicitDefEqProofs only [go_sem])
  exact ⟨zale, ⟨_, rfl⟩, _, rfl, fun hh => by omega⟩
 repeat (first | rw [ko] | rw [kr] | simp -dsimp -implicitDefEqProofs only [go_sem, rq1])
 exact ⟨zale, ⟨_, rfl⟩, _, rfl, fun hh => by unfold szStore; omega⟩
theorem eqStore_ok {F F' : Nat → Adr} {c : LStore} {h : H2} (hf : fitStore c) : PW Tryz.prog W0 68 [.st (xStore F c), .st (xStore F' c)] h (fun y => y = .raw (.bool true)) := by
 unfold fitStore at hf
 refine PW.scalar ?_
 refine begins [[0, 1], [2, 3], [], [2, 3], [], []] Tryz.func68 rfl (rs := [.tmp 4]) rfl rfl ?_
 intro wf
 repeat (first | rw [ko] | rw [kr] | simp -dsimp -implicitDefEqProofs only [go_sem])
 refine pw_intro (eqIntS_pw  hf.1) ?_
 rintro _ n0 hn0 rfl
 repeat (first | rw [ko] | rw [kr] | simp -dsimp -implicitDefEqProofs only [go_sem, rq1])
 refine pw_intro (eqCellSS_pw  hf.2) ?_
 rintro _ n1 hn1 rfl
 repeat (first | rw [ko] | rw [kr] | simp -dsimp -implicitDefEqProofs only [go_sem])
 exact ⟨zale, ⟨_, rfl⟩, rfl⟩
theorem toStore_ok {F : Nat → Adr} {c : LStore} {h : H2} (hs : szStore c ≤ 1048576) : NewS Tryz.prog W0 66 [.st (xStore F c)] h (eStore c) := by
 unfold szStore at hs
 refine begins [[0], [1, 2], [1, 2, 3], [1, 2, 3], [2, 3]] Tryz.func66 rfl (rs := [.cell 2 38]) rfl rfl ?_
 intro wf
 repeat (first | rw [ko] | rw [kr] | simp -dsimp -implicitDefEqProofs only [go_sem])
 refine wz_intro (toIntS_new  (by omega)) ?_
 rintro s0 g0 ⟨l0, b0, o0, bl0⟩
 have ce0 := OT.cell o0
 have n0 := l0.n
 have a00 := l0.2 (hn h .mk) (by simp only [hn_push]; omega)
 have a01 := l0.2 (hn h .mk + 1) (by simp only [hn_push]; omega)
 have a02 := l0.2 (hn h .mk + 1 + 1) (by simp only [hn_push]; omega)
 simp -dsimp -implicitDefEqProofs only [go_sem, hoo] at n0 a00 a01 a02
 have L0 : h.le g0 := H2.le.trans zale l0
 repeat (first | rw [ko] | rw [kr] | simp -dsimp -implicitDefEqProofs only [go_sem, rq1, a00, a02, ce0])
 refine wz_intro (toCellSS_new  (by omega)) ?_
 rintro s1 g1 ⟨l1, b1, o1, bl1⟩
 have ce1 := OT.cell o1
 have n1 := l1.n
 have a10 := l1.2 (hn h .mk) (by simp only [hn_set]; omega)
 have a11 := l1.2 (hn h .mk + 1) (by simp only [hn_set]; omega)
 have a12 := l1.2 (hn h .mk + 1 + 1) (by simp only [hn_set]; omega)
 simp -dsimp -implicitDefEqProofs only [go_sem, a00, a01, hoo] at n1 a10 a11 a12
 have L1 : h.le g1 := H2.le.trans zale l1
 repeat (first | rw [ko] | rw [kr] | simp -dsimp -implicitDefEqProofs only [go_sem, rq1, rq2, a11, a12, ce0, ce1])
 refine ⟨zale, _, b0 ++ b1, rfl, outStore (c := c) ?_ ?_, ?_⟩
 ·refine OT.frame o0 fun b hb => ?_
  have hbl := bl0.2 b (hb)
  simp only [hn_push] at hbl
  simp only [H2.set]
  rw [if_neg (by omega), if_neg (by omega)]
  rw [show g1.get b = _ from l1.2 b (by simp only [hn_set]; omega)]
  simp only [hg, H2.set]
  rw [if_neg (by omega)]
 ·refine OT.frame o1 fun b hb => ?_
  have hbl := bl1.2 b (hb)
  simp only [hn_set] at hbl
  simp only [H2.set]
  rw [if_neg (by omega), if_neg (by omega)]
 ·simp only [hn_set]
  have m0 := bl0
  simp only [hn_push] at m0
  have m1 := bl1
  simp only [hn_set] at m1
  have := ((Bl.append m0 m1 (by omega) (by omega))).wide (N' := hn h .mk) (by omega) (Nat.le_refl _)
  simpa only [List.append_assoc] using this
end Go.Bi
end
section
set_option maxRecDepth 20000
namespace Go.Bi
open Go.Proofs
open Go.Ai (wrap_i64 wrap_u8)
variable {W0 : World}
def rRequestS (zs : List LRequest) : List (List T) := zs.map eRequest
theorem rRequestS_len {zs : List LRequest} : (rRequestS zs).length = zs.length := by simp [rRequestS]
theorem rRequestS_el {zs : List LRequest} {i : Nat} (hi : i < zs.length) : el (rRequestS zs) i = eRequest (zs.getD i default) := el_map hi
attribute [go_sem] rRequestS_len rRequestS_el
def szRequestS (zs : List LRequest) : Nat := zs.length + sumN szRequest zs
def fitRequestS (zs : List LRequest) : Prop := zs.length ≤ 9223372036854775807 ∧ ∀ x ∈ zs, fitRequest x
theorem szRequestS_pw {f : Adr} {zs : List LRequest} {left : Int} {h : H2} (hf : fitRequestS zs) (hl : 0 ≤ left ∧ left ≤ 1048576) : PW Tryz.prog W0 63 [.sl f 10 (rRequestS zs), .raw (.int .i64 left)] h (fun y => ∃ k : Int, y = .raw (.int .i64 k) ∧ (0 ≤ k → (szRequestS zs : Int) + k ≤ left)) := by
 obtain ⟨hf1, hf2⟩ := hf
 unfold szRequestS
 have hw : IntKind.i64.wrap (left - zs.length) = left - zs.length := by rw [wrap_i64] <;> omega
 refine PW.scalar ?_
 refine begins [[0, 1], [0, 1], [0, 1], [], [0, 1], [0, 1, 5], [0, 1, 5], [0, 1, 5], [0, 1, 5], [], [1]] Tryz.func63 rfl (rs := [.tmp 4]) rfl rfl ?_
 intro wf
 repeat (first | rw [ko] | rw [kr] | simp -dsimp -implicitDefEqProofs only [go_sem, rq1, hw])
 refine gz_dec (fun h1 => ?_) (fun h1 => ?_)
 ·repeat (first | rw [ko] | rw [kr] | simp -dsimp -implicitDefEqProofs only [go_sem])
  exact ⟨H2.le.refl _, ⟨_, rfl⟩, _, rfl, fun hh => by omega⟩
 ·repeat (first | rw [ko] | rw [kr] | simp -dsimp -implicitDefEqProofs only [go_sem, rq1])
  refine lz_keep [0] (fun m e h' => ∃ (k n : Nat) (x : Int), h' = h.up n ∧ hn h .mk ≤ n ∧ look e 5 .mk = .raw (.int .i64 k) ∧ look e 1 .mk = .raw (.int .i64 x) ∧ 0 ≤ x ∧ (zs.length : Int) + sumN szRequest (zs.take k) + x ≤ left ∧ m + k = zs.length) zs.length ?_ ?_
  ·exact ⟨0, hn h .mk, left - zs.length, up_self, Nat.le_refl _, zsm, zsm, by omega, by simp [sumN]; omega, by omega⟩
  ·rintro m e h' hks ⟨k, n, x, rfl, hnn, e5, e1, hx, hsum, hk⟩
   simp -dsimp -implicitDefEqProofs only [go_sem, rq1] at hks
   by_cases h2 : (k : Int) < (zs.length : Int)
   ·have h3 : k < zs.length := by omega
    have hst : sumN szRequest (zs.take (k + 1)) = sumN szRequest (zs.take k) + szRequest (zs.getD k default) := sumN_take (f := szRequest) h3
    repeat (first | rw [ko] | rw [kr] | simp -dsimp -implicitDefEqProofs only [go_sem, rq1, rq2, rq3, hks, e5, e1, h2, h3])
    refine pw_intro (szRequest_ok (F := under (under f k)) (c := zs.getD k default) (hf2 _ (getD_mem h3)) ⟨by omega, by omega⟩) ?_
    rintro _ n2 hn2 ⟨x2, rfl, hx2⟩
    simp only [hn_up] at hn2
    repeat (first | rw [ko] | rw [kr] | simp -dsimp -implicitDefEqProofs only [go_sem, rq1])
    refine gz_dec (fun h4 => ?_) (fun h4 => ?_)
    ·repeat (first | rw [ko] | rw [kr] | simp -dsimp -implicitDefEqProofs only [go_sem])
     exact ⟨(by first | exact le_up (H2.le.refl _) (by omega) | exact le_up (le_up (H2.le.refl _) hnn) (by rw [hn_up]; omega)), ⟨_, rfl⟩, _, rfl, fun hh => by omega⟩
    ·repeat (first | rw [ko] | rw [kr] | simp -dsimp -implicitDefEqProofs only [go_sem, rq1, wrap_succ h3 hf1])
     exact nx_keep (m - 1) (by omega) zsm ⟨k + 1, n2, x2, up_up, by omega, zsm, zsm, by omega, by have := hx2 (by omega); omega, by omega⟩
   ·repeat (first | rw [ko] | rw [kr] | simp -dsimp -implicitDefEqProofs only [go_sem, rq1, hks, e5, e1, h2])
    refine ⟨le_up (H2.le.refl _) hnn, ⟨_, rfl⟩, x, rfl, fun _ => ?_⟩
    rw [List.take_of_length_le (by omega)] at hsum
    omega
theorem eqRequestS_pw {f f' : Adr} {zs : List LRequest} {h : H2} (hf : fitRequestS zs) : PW Tryz.prog W0 69 [.sl f 10 (rRequestS zs), .sl f' 10 (rRequestS zs)] h (fun y => y = .raw (.bool true)) := by
 obtain ⟨hf1, hf2⟩ := hf
 refine PW.scalar ?_
 refine begins [[0, 1], [0, 1], [], [0, 1], [0, 1, 5], [0, 1, 5], [0, 1, 5], [], []] Tryz.func69 rfl (rs := [.tmp 4]) rfl rfl ?_
 intro wf
 repeat (first | rw [ko] | rw [kr] | simp -dsimp -implicitDefEqProofs only [go_sem, rq1])
 refine lz_keep [0, 1] (fun m e h' => ∃ (k n : Nat), h' = h.up n ∧ hn h .mk ≤ n ∧ look e 5 .mk = .raw (.int .i64 k) ∧ m + k = zs.length) zs.length ?_ ?_
 ·exact ⟨0, hn h .mk, up_self, Nat.le_refl _, zsm, by omega⟩
 ·rintro m e h' hks ⟨k, n, rfl, hnn, e5, hk⟩
  simp -dsimp -implicitDefEqProofs only [go_sem, rq1] at hks
  by_cases h2 : (k : Int) < (zs.length : Int)
  ·have h3 : k < zs.length := by omega
   repeat (first | rw [ko] | rw [kr] | simp -dsimp -implicitDefEqProofs only [go_sem, rq1, hks, e5, h2])
   refine dq_intro [(0, []), (1, []), (2, []), (3, []), (4, []), (5, []), (6, []), (7, []), (8, []), (9, [])] (by kernel_rfl) ?_
   repeat (first | rw [ko] | rw [kr] | simp -dsimp -implicitDefEqProofs only [go_sem, rq1, rq2, rq3, h3])
   refine pw_intro (eqRequest_ok (F := under (under f k)) (F' := under (under f' k)) (c := zs.getD k default) (hf2 _ (getD_mem h3))) ?_
   rintro _ n2 hn2 rfl
   simp only [hn_up] at hn2
   repeat (first | rw [ko] | rw [kr] | simp -dsimp -implicitDefEqProofs only [go_sem, rq1, wrap_succ h3 hf1])
   exact nx_keep (m - 1) (by omega) zsm ⟨k + 1, n2, up_up, by omega, zsm, by omega⟩
  ·repeat (first | rw [ko] | rw [kr] | simp -dsimp -implicitDefEqProofs only [go_sem, rq1, hks, e5, h2])
   exact ⟨le_up (H2.le.refl _) hnn, ⟨_, rfl⟩, rfl⟩
theorem toRequestS_new {f : Adr} {zs : List LRequest} {h : H2} (hs : szRequestS zs ≤ 1048576) : NewT Tryz.prog W0 67 [.sl f 10 (rRequestS zs)] h (.l 10 (rRequestS zs)) := by
 unfold szRequestS at hs
 have hE : ∀ a, (eRequest a).length = 10 := fun a => rfl
 refine begins [[0], [0], [0, 3], [0, 3, 4], [0, 3, 4], [0, 3, 4], [3]] Tryz.func67 rfl (rs := [.tmp 2]) rfl rfl ?_
 intro wf
 repeat (first | rw [ko] | rw [kr] | simp -dsimp -implicitDefEqProofs only [go_sem])
 refine make_intro Ai.ty_el39 Ai.ty_zr102 (by decide) ⟨by omega, by simp only [Int.toNat_natCast]; have : Ai.most = 1099511627776 := rfl; omega⟩ ?_
 repeat (first | rw [ko] | rw [kr] | simp -dsimp -implicitDefEqProofs only [go_sem, rq1])
 refine lz_keep [0, 3] (fun m e h' => ∃ (k : Nat) (cs : List X) (bs : List Nat), look e 4 .mk = .raw (.int .i64 k) ∧ m + k = zs.length ∧ hg h' (hn h .mk) .mk = some ⟨10, cs⟩ ∧ cs.length = zs.length * 10 ∧ OTs h' bs (cs.take (k * 10)) (((zs.take k).map eRequest).flatten) ∧ Bl (hn h .mk + 1) (hn h' .mk) bs ∧ h.le h' ∧ hn h .mk < hn h' .mk) zs.length ?_ ?_
 ·exact ⟨0, _, [], zsm, by omega, (by rw [hg_push, hoo]; rfl), by simp [rep_len], by simpa using OTs.nil, Bl.nil, le_push (H2.le.refl _), by rw [hn_push]; omega⟩
 ·rintro m e h' hks ⟨k, cs, bs, e4, hk, hrow, hcs, ho, hbl, hle, hlt⟩
  simp -dsimp -implicitDefEqProofs only [go_sem] at hks
  by_cases h2 : (k : Int) < (zs.length : Int)
  ·have h3 : k < zs.length := by omega
   have hsm : szRequest (zs.getD k default) ≤ sumN szRequest zs := sumN_mem (f := szRequest) (getD_mem h3)
   repeat (first | rw [ko] | rw [kr] | simp -dsimp -implicitDefEqProofs only [go_sem, rq1, rq2, rq3, hks, e4, h2, h3])
   refine wz_intro (toRequest_ok (F := under (under f k)) (c := zs.getD k default) (by omega)) ?_
   rintro _ g2 ⟨l2, ys, b2, rfl, o2, bl2⟩
   have nn2 := l2.1
   have hyl : (ys).length = 10 := (OTs.len o2).trans (hE _)
   have hyo := OTs.okx o2
   obtain ⟨w1, w2, w3⟩ := wrt_next hcs h3 hyl
   have row2 := (l2.2 (hn h .mk) hlt).trans hrow
   have hi2 : (0 : Int) ≤ (k : Int) ∧ (k : Int) < (zs.length : Int) := by omega
   repeat (first | rw [ko] | rw [kr] | simp -dsimp -implicitDefEqProofs only [go_sem, rq1, row2, hi2, hyl, hyo, w1, wrap_succ h3 (by omega)])
   have hset : ∀ {b : Nat} {kk : OB}, b ≠ hn h .mk → (g2.set (hn h .mk) kk).get b = g2.get b := fun hb => by simp only [H2.set]; rw [if_neg hb]
   refine nx_keep (m - 1) (by omega) zsm ⟨k + 1, _, bs ++ b2, zsm, by omega, (by rw [hg_set, hoo]; rfl), w2, ?_, ?_, le_set (hle.trans l2) (Nat.le_refl _), by simp -dsimp -implicitDefEqProofs only [go_sem] <;> omega⟩
   ·rw [w3, flat_next h3]
    refine OTs.append ((OTs.keep ho l2 hbl).frame fun b hb => hset (by have := (hbl.2 b hb).1; omega)) (o2.frame fun b hb => hset (by have := (bl2.2 b hb).1; omega))
   ·rw [hn_set]
    exact hbl.append bl2 (by omega) nn2
  ·repeat (first | rw [ko] | rw [kr] | simp -dsimp -implicitDefEqProofs only [go_sem, rq1, hks, e4, h2])
   have : k = zs.length := by omega
   subst this
   obtain ⟨q1, q2⟩ := OT.full hE hrow hcs ho hbl hlt
   exact ⟨hle, _, q1, q2⟩
structure LEngine where
 model : LModel
 store : LStore
 requests : List LRequest
instance : Inhabited LEngine := ⟨⟨default, default, default⟩⟩
def eEngine (c : LEngine) : List T := [.v (.int .i64 c.model.dim), .v (.int .i64 c.model.heads), .v (.int .i64 c.model.context), .l 2 (rMergeS c.model.merges), .l 1 (rIntSS c.model.embed), .l 32 (rLayerS c.model.layers), .l 1 (ints c.model.gainEnd), .v (.int .i64 c.model.head.width), .l 1 (rIntSS c.model.head.rows), .l 1 (rIntSS c.model.head.scales), .v (.int .i64 c.model.head.mul), .v (.int .i64 c.model.head.shift), .l 1 (rIntSS c.model.turns.cos), .l 1 (rIntSS c.model.turns.sin), .l 1 (ints c.store.refs), .l 1 (rCellSS c.store.pages), .l 10 (rRequestS c.requests)]
def xEngine (F : Nat → Adr) (c : LEngine) : List X := [.raw (.int .i64 c.model.dim), .raw (.int .i64 c.model.heads), .raw (.int .i64 c.model.context), .sl (F 3) 2 (rMergeS c.model.merges), .sl (F 4) 1 (rIntSS c.model.embed), .sl (F 5) 32 (rLayerS c.model.layers), .sl (F 6) 1 (ints c.model.gainEnd), .raw (.int .i64 c.model.head.width), .sl (F 8) 1 (rIntSS c.model.head.rows), .sl (F 9) 1 (rIntSS c.model.head.scales), .raw (.int .i64 c.model.head.mul), .raw (.int .i64 c.model.head.shift), .sl (F 12) 1 (rIntSS c.model.turns.cos), .sl (F 13) 1 (rIntSS c.model.turns.sin), .sl (F 14) 1 (ints c.store.refs), .sl (F 15) 1 (rCellSS c.store.pages), .sl (F 16) 10 (rRequestS c.requests)]
theorem xEngine_def {F : Nat → Adr} {c : LEngine} : xEngine F c = [.raw (.int .i64 c.model.dim), .raw (.int .i64 c.model.heads), .raw (.int .i64 c.model.context), .sl (F 3) 2 (rMergeS c.model.merges), .sl (F 4) 1 (rIntSS c.model.embed), .sl (F 5) 32 (rLayerS c.model.layers), .sl (F 6) 1 (ints c.model.gainEnd), .raw (.int .i64 c.model.head.width), .sl (F 8) 1 (rIntSS c.model.head.rows), .sl (F 9) 1 (rIntSS c.model.head.scales), .raw (.int .i64 c.model.head.mul), .raw (.int .i64 c.model.head.shift), .sl (F 12) 1 (rIntSS c.model.turns.cos), .sl (F 13) 1 (rIntSS c.model.turns.sin), .sl (F 14) 1 (ints c.store.refs), .sl (F 15) 1 (rCellSS c.store.pages), .sl (F 16) 10 (rRequestS c.requests)] := rfl
def szEngine (c : LEngine) : Nat := szModel c.model + szStore c.store + szRequestS c.requests
def fitEngine (c : LEngine) : Prop := fitModel c.model ∧ fitStore c.store ∧ fitRequestS c.requests
attribute [go_sem] xEngine_def
theorem invEngine {g : H2} {bs : List Nat} {ys : List X} {c : LEngine} (o : OTs g bs ys (eEngine c)) : ∃ b3 s3 b4 s4 b5 s5 b6 s6 b8 s8 b9 s9 b12 s12 b13 s13 b14 s14 b15 s15 b16 s16, ys = [.raw (.int .i64 c.model.dim), .raw (.int .i64 c.model.heads), .raw (.int .i64 c.model.context), s3, s4, s5, s6, .raw (.int .i64 c.model.head.width), s8, s9, .raw (.int .i64 c.model.head.mul), .raw (.int .i64 c.model.head.shift), s12, s13, s14, s15, s16] ∧ bs = b3 ++ (b4 ++ (b5 ++ (b6 ++ (b8 ++ (b9 ++ (b12 ++ (b13 ++ (b14 ++ (b15 ++ b16))))))))) ∧ OT g b3 s3 (.l 2 (rMergeS c.model.merges)) ∧ OT g b4 s4 (.l 1 (rIntSS c.model.embed)) ∧ OT g b5 s5 (.l 32 (rLayerS c.model.layers)) ∧ OT g b6 s6 (.l 1 (ints c.model.gainEnd)) ∧ OT g b8 s8 (.l 1 (rIntSS c.model.head.rows)) ∧ OT g b9 s9 (.l 1 (rIntSS c.model.head.scales)) ∧ OT g b12 s12 (.l 1 (rIntSS c.model.turns.cos)) ∧ OT g b13 s13 (.l 1 (rIntSS c.model.turns.sin)) ∧ OT g b14 s14 (.l 1 (ints c.store.refs)) ∧ OT g b15 s15 (.l 1 (rCellSS c.store.pages)) ∧ OT g b16 s16 (.l 10 (rRequestS c.requests)) := by
 unfold eEngine at o
 obtain ⟨ys0, rfl, o0⟩ := OTs.headv o
 obtain ⟨ys1, rfl, o1⟩ := OTs.headv o0
 obtain ⟨ys2, rfl, o2⟩ := OTs.headv o1
 obtain ⟨b3, bs3, s3, ys3, rfl, rfl, a3, o3⟩ := OTs.head o2
 obtain ⟨b4, bs4, s4, ys4, rfl, rfl, a4, o4⟩ := OTs.head o3
 obtain ⟨b5, bs5, s5, ys5, rfl, rfl, a5, o5⟩ := OTs.head o4
 obtain ⟨b6, bs6, s6, ys6, rfl, rfl, a6, o6⟩ := OTs.head o5
 obtain ⟨ys7, rfl, o7⟩ := OTs.headv o6
 obtain ⟨b8, bs8, s8, ys8, rfl, rfl, a8, o8⟩ := OTs.head o7
 obtain ⟨b9, bs9, s9, ys9, rfl, rfl, a9, o9⟩ := OTs.head o8
 obtain ⟨ys10, rfl, o10⟩ := OTs.headv o9
 obtain ⟨ys11, rfl, o11⟩ := OTs.headv o10
 obtain ⟨b12, bs12, s12, ys12, rfl, rfl, a12, o12⟩ := OTs.head o11
 obtain ⟨b13, bs13, s13, ys13, rfl, rfl, a13, o13⟩ := OTs.head o12
 obtain ⟨b14, bs14, s14, ys14, rfl, rfl, a14, o14⟩ := OTs.head o13
 obtain ⟨b15, bs15, s15, ys15, rfl, rfl, a15, o15⟩ := OTs.head o14
 obtain ⟨b16, bs16, s16, ys16, rfl, rfl, a16, o16⟩ := OTs.head o15
 obtain ⟨rfl, rfl⟩ := OTs.tail0 o16
 exact ⟨_, _, _, _, _, _, _, _, _, _, _, _, _, _, _, _, _, _, _, _, _, _, rfl, by simp only [List.append_nil], a3, a4, a5, a6, a8, a9, a12, a13, a14, a15, a16⟩
theorem outEngine {g : H2} {c : LEngine} {b3 b4 b5 b6 b8 b9 b12 b13 b14 b15 b16 : List Nat} {s3 s4 s5 s6 s8 s9 s12 s13 s14 s15 s16 : X} (a3 : OT g b3 s3 (.l 2 (rMergeS c.model.merges))) (a4 : OT g b4 s4 (.l 1 (rIntSS c.model.embed))) (a5 : OT g b5 s5 (.l 32 (rLayerS c.model.layers))) (a6 : OT g b6 s6 (.l 1 (ints c.model.gainEnd))) (a8 : OT g b8 s8 (.l 1 (rIntSS c.model.head.rows))) (a9 : OT g b9 s9 (.l 1 (rIntSS c.model.head.scales))) (a12 : OT g b12 s12 (.l 1 (rIntSS c.model.turns.cos))) (a13 : OT g b13 s13 (.l 1 (rIntSS c.model.turns.sin))) (a14 : OT g b14 s14 (.l 1 (ints c.store.refs))) (a15 : OT g b15 s15 (.l 1 (rCellSS c.store.pages))) (a16 : OT g b16 s16 (.l 10 (rRequestS c.requests))) : OTs g (b3 ++ (b4 ++ (b5 ++ (b6 ++ (b8 ++ (b9 ++ (b12 ++ (b13 ++ (b14 ++ (b15 ++ b16)))))))))) [.raw (.int .i64 c.model.dim), .raw (.int .i64 c.model.heads), .raw (.int .i64 c.model.context), s3, s4, s5, s6, .raw (.int .i64 c.model.head.width), s8, s9, .raw (.int .i64 c.model.head.mul), .raw (.int .i64 c.model.head.shift), s12, s13, s14, s15, s16] (eEngine c) := by
 have := OTs.cons (OT.raw (v := .int .i64 c.model.dim) rfl) (OTs.cons (OT.raw (v := .int .i64 c.model.heads) rfl) (OTs.cons (OT.raw (v := .int .i64 c.model.context) rfl) (OTs.cons a3 (OTs.cons a4 (OTs.cons a5 (OTs.cons a6 (OTs.cons (OT.raw (v := .int .i64 c.model.head.width) rfl) (OTs.cons a8 (OTs.cons a9 (OTs.cons (OT.raw (v := .int .i64 c.model.head.mul) rfl) (OTs.cons (OT.raw (v := .int .i64 c.model.head.shift) rfl) (OTs.cons a12 (OTs.cons a13 (OTs.cons a14 (OTs.cons a15 (OTs.cons a16 (OTs.nil)))))))))))))))))
 simpa only [eEngine, List.append_nil, List.nil_append] using this
theorem szEngine_ok {F : Nat → Adr} {c : LEngine} {left : Int} {h : H2} (hf : fitEngine c) (hl : 0 ≤ left ∧ left ≤ 1048576) : PW Tryz.prog W0 18 [.st (xEngine F c), .raw (.int .i64 left)] h (fun y => ∃ k : Int, y = .raw (.int .i64 k) ∧ (0 ≤ k → (szEngine c : Int) + k ≤ left)) := by
 unfold fitEngine at hf
 refine PW.scalar ?_
 refine begins [[0, 1], [1, 2], [1, 2], [], [1, 2], [1, 2], [], [1, 2], [1], [], [1]] Tryz.func18 rfl (rs := [.tmp 4]) rfl rfl ?_
 intro wf
 repeat (first | rw [ko] | rw [kr] | simp -dsimp -implicitDefEqProofs only [go_sem, rq1])
 refine pw_intro (szModel_ok (F := F) hf.1 ⟨by omega, by omega⟩) ?_
 rintro _ n0 hn0 ⟨k0, rfl, hk0⟩
 repeat (first | rw [ko] | rw [kr] | simp -dsimp -implicitDefEqProofs only [go_sem, rq1])
 refine gz_dec (fun q0 => ?_) (fun q0 => ?_)
 ·repeat (first | rw [ko] | rw [kr] | simp -dsimp -implicitDefEqProofs only [go_sem])
  exact ⟨zale, ⟨_, rfl⟩, _, rfl, fun hh => by omega⟩
 repeat (first | rw [ko] | rw [kr] | simp -dsimp -implicitDefEqProofs only [go_sem, rq1])
 refine pw_intro (szStore_ok (F := fun j => F (j + 14)) hf.2.1 ⟨by omega, by omega⟩) ?_
 rintro _ n1 hn1 ⟨k1, rfl, hk1⟩
 repeat (first | rw [ko] | rw [kr] | simp -dsimp -implicitDefEqProofs only [go_sem, rq1])
 refine gz_dec (fun q1 => ?_) (fun q1 => ?_)
 ·repeat (first | rw [ko] | rw [kr] | simp -dsimp -implicitDefEqProofs only [go_sem])
  exact ⟨zale, ⟨_, rfl⟩, _, rfl, fun hh => by omega⟩
 repeat (first | rw [ko] | rw [kr] | simp -dsimp -implicitDefEqProofs only [go_sem, rq1])
 refine pw_intro (szRequestS_pw  hf.2.2 ⟨by omega, by omega⟩) ?_
 rintro _ n2 hn2 ⟨k2, rfl, hk2⟩
 repeat (first | rw [ko] | rw [kr] | simp -dsimp -implicitDefEqProofs only [go_sem])
 refine gz_dec (fun q2 => ?_) (fun q2 => ?_)
 ·repeat (first | rw [ko] | rw [kr] | simp -dsimp -implicitDefEqProofs only [go_sem])
  exact ⟨zale, ⟨_, rfl⟩, _, rfl, fun hh => by omega⟩
 repeat (first | rw [ko] | rw [kr] | simp -dsimp -implicitDefEqProofs only [go_sem, rq1])
 exact ⟨zale, ⟨_, rfl⟩, _, rfl, fun hh => by unfold szEngine; omega⟩
theorem eqEngine_ok {F F' : Nat → Adr} {c : LEngine} {h : H2} (hf : fitEngine c) : PW Tryz.prog W0 21 [.st (xEngine F c), .st (xEngine F' c)] h (fun y => y = .raw (.bool true)) := by
 unfold fitEngine at hf
 refine PW.scalar ?_
 refine begins [[0, 1], [2, 3], [], [2, 3], [], [2, 3], [], []] Tryz.func21 rfl (rs := [.tmp 4]) rfl rfl ?_
 intro wf
 repeat (first | rw [ko] | rw [kr] | simp -dsimp -implicitDefEqProofs only [go_sem])
 refine pw_intro (eqModel_ok (F := fun j => F (j + 0)) (F' := fun j => F' (j + 0)) hf.1) ?_
 rintro _ n0 hn0 rfl
 repeat (first | rw [ko] | rw [kr] | simp -dsimp -implicitDefEqProofs only [go_sem, rq1])
 refine pw_intro (eqStore_ok (F := fun j => F (j + 14)) (F' := fun j => F' (j + 14)) hf.2.1) ?_
 rintro _ n1 hn1 rfl
 repeat (first | rw [ko] | rw [kr] | simp -dsimp -implicitDefEqProofs only [go_sem, rq1])
 refine pw_intro (eqRequestS_pw  hf.2.2) ?_
 rintro _ n2 hn2 rfl
 repeat (first | rw [ko] | rw [kr] | simp -dsimp -implicitDefEqProofs only [go_sem])
 exact ⟨zale, ⟨_, rfl⟩, rfl⟩
theorem toEngine_ok {F : Nat → Adr} {c : LEngine} {h : H2} (hs : szEngine c ≤ 1048576) : NewS Tryz.prog W0 20 [.st (xEngine F c)] h (eEngine c) := by
 unfold szEngine at hs
 refine begins [[0], [1, 2], [1, 2, 3], [1, 2, 3], [1, 2, 3], [2, 3]] Tryz.func20 rfl (rs := [.cell 2 41]) rfl rfl ?_
 intro wf
 repeat (first | rw [ko] | rw [kr] | simp -dsimp -implicitDefEqProofs only [go_sem])
 refine wz_intro (toModel_ok (F := F) (by omega)) ?_
 rintro _ g0 ⟨l0, ys0, b0, rfl, o0, bl0⟩
 obtain ⟨b0_3, s3, b0_4, s4, b0_5, s5, b0_6, s6, b0_8, s8, b0_9, s9, b0_12, s12, b0_13, s13, rfl, hb0, o0_3, o0_4, o0_5, o0_6, o0_8, o0_9, o0_12, o0_13⟩ := invModel o0
 have ce3 := OT.cell o0_3
 have ce4 := OT.cell o0_4
 have ce5 := OT.cell o0_5
 have ce6 := OT.cell o0_6
 have ce8 := OT.cell o0_8
 have ce9 := OT.cell o0_9
 have ce12 := OT.cell o0_12
 have ce13 := OT.cell o0_13
 have n0 := l0.n
 have a00 := l0.2 (hn h .mk) (by simp only [hn_push]; omega)
 have a01 := l0.2 (hn h .mk + 1) (by simp only [hn_push]; omega)
 have a02 := l0.2 (hn h .mk + 1 + 1) (by simp only [hn_push]; omega)
 simp -dsimp -implicitDefEqProofs only [go_sem, hoo] at n0 a00 a01 a02
 have L0 : h.le g0 := H2.le.trans zale l0
 repeat (first | rw [ko] | rw [kr] | simp -dsimp -implicitDefEqProofs only [go_sem, rq1, rq2, a00, a02, ce3, ce4, ce5, ce6, ce8, ce9, ce12, ce13])
 refine wz_intro (toStore_ok (F := fun j => F (j + 14)) (by omega)) ?_
 rintro _ g1 ⟨l1, ys1, b1, rfl, o1, bl1⟩
 obtain ⟨b1_0, s14, b1_1, s15, rfl, hb1, o1_0, o1_1⟩ := invStore o1
 have ce14 := OT.cell o1_0
 have ce15 := OT.cell o1_1
 have n1 := l1.n
 have a10 := l1.2 (hn h .mk) (by simp only [hn_set]; omega)
 have a11 := l1.2 (hn h .mk + 1) (by simp only [hn_set]; omega)
 have a12 := l1.2 (hn h .mk + 1 + 1) (by simp only [hn_set]; omega)
 simp -dsimp -implicitDefEqProofs only [go_sem, a00, a01, hoo] at n1 a10 a11 a12
 have L1 : h.le g1 := H2.le.trans zale l1
 repeat (first | rw [ko] | rw [kr] | simp -dsimp -implicitDefEqProofs only [go_sem, rq1, rq2, a10, a12, ce14, ce15])
 refine wz_intro (toRequestS_new  (by omega)) ?_
 rintro s16 g2 ⟨l2, b2, o2, bl2⟩
 have ce16 := OT.cell o2
 have n2 := l2.n
 have a20 := l2.2 (hn h .mk) (by simp only [hn_set]; omega)
 have a21 := l2.2 (hn h .mk + 1) (by simp only [hn_set]; omega)
 have a22 := l2.2 (hn h .mk + 1 + 1) (by simp only [hn_set]; omega)
 simp -dsimp -implicitDefEqProofs only [go_sem, a10, a11, hoo] at n2 a20 a21 a22
 have L2 : h.le g2 := H2.le.trans zale l2
 repeat (first | rw [ko] | rw [kr] | simp -dsimp -implicitDefEqProofs only [go_sem, rq1, rq2, a21, a22, ce3, ce4, ce5, ce6, ce8, ce9, ce12, ce13, ce14, ce15, ce16])
 refine ⟨zale, _, b0_3 ++ (b0_4 ++ (b0_5 ++ (b0_6 ++ (b0_8 ++ (b0_9 ++ (b0_12 ++ (b0_13 ++ (b1_0 ++ (b1_1 ++ b2))))))))), rfl, outEngine (c := c) ?_ ?_ ?_ ?_ ?_ ?_ ?_ ?_ ?_ ?_ ?_, ?_⟩
 ·refine OT.frame o0_3 fun b hb => ?_
  have hbl := bl0.2 b (by rw [hb0]; simp [hb])
  simp only [hn_push] at hbl
  simp only [H2.set]
  rw [if_neg (by omega), if_neg (by omega)]
  rw [show g2.get b = _ from l2.2 b (by simp only [hn_set]; omega)]
  simp only [hg, H2.set]
  rw [if_neg (by omega)]
  rw [show g1.get b = _ from l1.2 b (by simp only [hn_set]; omega)]
  simp only [hg, H2.set]
  rw [if_neg (by omega)]
 ·refine OT.frame o0_4 fun b hb => ?_
  have hbl := bl0.2 b (by rw [hb0]; simp [hb])
  simp only [hn_push] at hbl
  simp only [H2.set]
  rw [if_neg (by omega), if_neg (by omega)]
  rw [show g2.get b = _ from l2.2 b (by simp only [hn_set]; omega)]
  simp only [hg, H2.set]
  rw [if_neg (by omega)]
  rw [show g1.get b = _ from l1.2 b (by simp only [hn_set]; omega)]
  simp only [hg, H2.set]
  rw [if_neg (by omega)]
 ·refine OT.frame o0_5 fun b hb => ?_
  have hbl := bl0.2 b (by rw [hb0]; simp [hb])
  simp only [hn_push] at hbl
  simp only [H2.set]
  rw [if_neg (by omega), if_neg (by omega)]
  rw [show g2.get b = _ from l2.2 b (by simp only [hn_set]; omega)]
  simp only [hg, H2.set]
  rw [if_neg (by omega)]
  rw [show g1.get b = _ from l1.2 b (by simp only [hn_set]; omega)]
  simp only [hg, H2.set]
  rw [if_neg (by omega)]
 ·refine OT.frame o0_6 fun b hb => ?_
  have hbl := bl0.2 b (by rw [hb0]; simp [hb])
  simp only [hn_push] at hbl
  simp only [H2.set]
  rw [if_neg (by omega), if_neg (by omega)]
  rw [show g2.get b = _ from l2.2 b (by simp only [hn_set]; omega)]
  simp only [hg, H2.set]
  rw [if_neg (by omega)]
  rw [show g1.get b = _ from l1.2 b (by simp only [hn_set]; omega)]
  simp only [hg, H2.set]
  rw [if_neg (by omega)]
 ·refine OT.frame o0_8 fun b hb => ?_
  have hbl := bl0.2 b (by rw [hb0]; simp [hb])
  simp only [hn_push] at hbl
  simp only [H2.set]
  rw [if_neg (by omega), if_neg (by omega)]
  rw [show g2.get b = _ from l2.2 b (by simp only [hn_set]; omega)]
  simp only [hg, H2.set]
  rw [if_neg (by omega)]
  rw [show g1.get b = _ from l1.2 b (by simp only [hn_set]; omega)]
  simp only [hg, H2.set]
  rw [if_neg (by omega)]
 ·refine OT.frame o0_9 fun b hb => ?_
  have hbl := bl0.2 b (by rw [hb0]; simp [hb])
  simp only [hn_push] at hbl
  simp only [H2.set]
  rw [if_neg (by omega), if_neg (by omega)]
  rw [show g2.get b = _ from l2.2 b (by simp only [hn_set]; omega)]
  simp only [hg, H2.set]
  rw [if_neg (by omega)]
  rw [show g1.get b = _ from l1.2 b (by simp only [hn_set]; omega)]
  simp only [hg, H2.set]
  rw [if_neg (by omega)]
 ·refine OT.frame o0_12 fun b hb => ?_
  have hbl := bl0.2 b (by rw [hb0]; simp [hb])
  simp only [hn_push] at hbl
  simp only [H2.set]
  rw [if_neg (by omega), if_neg (by omega)]
  rw [show g2.get b = _ from l2.2 b (by simp only [hn_set]; omega)]
  simp only [hg, H2.set]
  rw [if_neg (by omega)]
  rw [show g1.get b = _ from l1.2 b (by simp only [hn_set]; omega)]
  simp only [hg, H2.set]
  rw [if_neg (by omega)]
 ·refine OT.frame o0_13 fun b hb => ?_
  have hbl := bl0.2 b (by rw [hb0]; simp [hb])
  simp only [hn_push] at hbl
  simp only [H2.set]
  rw [if_neg (by omega), if_neg (by omega)]
  rw [show g2.get b = _ from l2.2 b (by simp only [hn_set]; omega)]
  simp only [hg, H2.set]
  rw [if_neg (by omega)]
  rw [show g1.get b = _ from l1.2 b (by simp only [hn_set]; omega)]
  simp only [hg, H2.set]
  rw [if_neg (by omega)]
 ·refine OT.frame o1_0 fun b hb => ?_
  have hbl := bl1.2 b (by rw [hb1]; simp [hb])
  simp only [hn_set] at hbl
  simp only [H2.set]
  rw [if_neg (by omega), if_neg (by omega)]
  rw [show g2.get b = _ from l2.2 b (by simp only [hn_set]; omega)]
  simp only [hg, H2.set]
  rw [if_neg (by omega)]
 ·refine OT.frame o1_1 fun b hb => ?_
  have hbl := bl1.2 b (by rw [hb1]; simp [hb])
  simp only [hn_set] at hbl
  simp only [H2.set]
  rw [if_neg (by omega), if_neg (by omega)]
  rw [show g2.get b = _ from l2.2 b (by simp only [hn_set]; omega)]
  simp only [hg, H2.set]
  rw [if_neg (by omega)]
 ·refine OT.frame o2 fun b hb => ?_
  have hbl := bl2.2 b (hb)
  simp only [hn_set] at hbl
  simp only [H2.set]
  rw [if_neg (by omega), if_neg (by omega)]
 ·simp only [hn_set]
  have m0 := bl0
  simp only [hn_push] at m0
  rw [hb0] at m0
  have m1 := bl1
  simp only [hn_set] at m1
  rw [hb1] at m1
  have m2 := bl2
  simp only [hn_set] at m2
  have := ((Bl.append m0 (Bl.append m1 m2 (by omega) (by omega)) (by omega) (by omega))).wide (N' := hn h .mk) (by omega) (Nat.le_refl _)
  simpa only [List.append_assoc] using this
end Go.Bi
end
section
set_option maxRecDepth 20000
namespace Go.Bi
open Go.Proofs
open Go.Ai (wrap_i64 wrap_u8)
variable {W0 : World}
theorem eqIntS_tree {g : H2} {b b' : List Nat} {x x' : X} {zs : List Int} (o : OT g b x (.l 1 (ints zs))) (o' : OT g b' x' (.l 1 (ints zs))) (hn0 : zs.length ≤ 9223372036854775807) : PW Tryz.prog W0 41 [x, x'] g (fun y => y = .raw (.bool true)) := by
 obtain ⟨f, hf⟩ := o.lent
 obtain ⟨f', hf'⟩ := o'.lent
 exact PW.lend (.cons hf (.cons hf' .nil)) (eqIntS_pw hn0) (fun y h => by subst h; exact .raw)
theorem eqConfig_tree {g : H2} {c : LConfig} {bs bs' : List Nat} {ys ys' : List X} (o : OTs g bs ys (eConfig c)) (o' : OTs g bs' ys' (eConfig c)) (hf : fitConfig c) : PW Tryz.prog W0 42 [.st ys, .st ys'] g (fun y => y = .raw (.bool true)) := by
 obtain ⟨F, hF⟩ := o.lent
 obtain ⟨F', hF'⟩ := o'.lent
 exact PW.lend (.cons hF (.cons hF' .nil)) (eqConfig_ok (F := F) (F' := F') hf) (fun y h => by subst h; exact .raw)
end Go.Bi
end
section
set_option maxRecDepth 20000
namespace Go.Bi
open Go.Proofs
open Go.Ai (wrap_i64 wrap_u8 Heap)
variable {W0 : World} {P : Program}
def slB (f : Adr) (z : Nat) (es : List (List T)) (hh l : Option Nat) : Option X := match hh, l with
 | some hh, some l => some (.sl (subA f l (hh - l) z) z ((es.drop l).take (hh - l)))
 | _, _ => none
def bndL (hh : Option Nat) (lo : Option X) : Option Nat := match hh with | some hh => boundX hh lo 0 | none => none
theorem slB_some {f : Adr} {z : Nat} {es : List (List T)} {hh l : Nat} : slB f z es (some hh) (some l) = some (.sl (subA f l (hh - l) z) z ((es.drop l).take (hh - l))) := rfl
theorem bndL_some {hh : Nat} {lo : Option X} : bndL (some hh) lo = boundX hh lo 0 := rfl
theorem slice_sl {t z : Nat} {h : H2} {f : Adr} {es : List (List T)} {lo hi : Option X} (h1 : (Go.Ai.eltZ (Go.Ai.elt? P t) == z) = true) (he : (Go.Ai.elt? P t).isSome = true) :
  slicez P h t (.sl f z es) lo hi none .mk = slB f z es (boundX es.length hi es.length) (bndL (boundX es.length hi es.length) lo) := by
 simp only [slicez, sliceX]
 cases hq : Go.Ai.elt? P t with
 | none => rw [hq] at he; cases he
 | some q =>
  obtain ⟨u, s, b⟩ := q
  rw [hq] at h1
  simp only [Go.Ai.eltZ, beq_iff_eq] at h1
  simp only [Option.isSome_none, Bool.false_eq_true, if_false, if_pos h1, slB, bndL]
  cases boundX es.length hi es.length with
  | none => rfl
  | some hh => dsimp only; cases boundX hh lo 0 <;> rfl
theorem bo_none {n d : Nat} : boundX n none d = some d := rfl
theorem bo_int {n d : Nat} {k : IntKind} {i : Int} (h0 : 0 ≤ i) (h1 : i ≤ n) : boundX n (some (.raw (.int k i))) d = some i.toNat := by
 simp only [boundX]; rw [if_pos ⟨h0, h1⟩]
theorem ints_take {zs : List Int} {n : Nat} : (ints zs).take n = ints (zs.take n) := by simp [ints]
attribute [go_sem] slB_some bndL_some slice_sl bo_none bo_int ints_take
theorem WC2.asm {f : FuncId} {xs : List X} {g : H2} {K : X → H2 → Prop} (c : ∀ h, S g h → (∀ x ∈ xs, Ok h g x) → WC2 P W0 f xs g K) : WC2 P W0 f xs g K := fun h s o => c h s o h s o
theorem nil_of {h : Heap} {g : H2} {f : Adr} {z : Nat} {es : List (List T)} (o : Ok h g (.sl f z es)) (hn : nilS (f []) = true) : es = [] := by
 cases o with
 | sl r =>
  cases r with
  | o h1 => rfl
  | l a c h1 h2 h3 h4 =>
   rcases h3 with ⟨_, h5⟩ | ⟨b, off, w, k, cs, rfl, _⟩
   ·exact h5
   ·rw [h1] at hn; cases hn
theorem flat_ints {f : Adr} : ∀ {zs : List Int} {i : Nat}, flatX f i (ints zs) = zs.map cI
 | [], _ => rfl
 | z :: zs, i => by
  have := flat_ints (f := f) (zs := zs) (i := i + 1)
  simp only [ints, List.map_cons, flatX, eI, mkL, mkC, List.cons_append, List.nil_append, cI] at *
  rw [this]
theorem src_ints {g : H2} {f : Adr} {zs : List Int} : srcX g 1 (.sl f 1 (ints zs)) = some (zs.length, zs.map cI) := by
 simp only [srcX, if_true, flat_ints, ints_len]
theorem ok_ints {zs : List Int} : (zs.map cI).all okX = true := by simp [cI, okX]
theorem append_ints {D : Nat → Option (List Nat)} {g : H2} {K : KT} {t u U y N : Nat} {xs zs : List Int} {x : X} {f : Adr} (he : Go.Ai.elt? P t = some (U, 1, y)) (hz : Go.Ai.zr? P U = some [.int .i64 0]) (hu : Go.Ai.cls? P u = some .sl)
  (hx : OwnI N g x xs) (hN0 : N ≤ hn g .mk) (hn0 : (xs.length + zs.length) * (y + 1) ≤ Go.Ai.most)
  (hk : ∀ v' g', OwnI N g' v' (xs ++ zs) → hn g .mk ≤ hn g' .mk → (∀ g0 : H2, hn g0 .mk ≤ N → g0.le g → g0.le g') → (∀ b, b < hn g .mk → blockOf x ≠ some b → hg g' b .mk = hg g b .mk) → kz K v' g' .mk) :
  az (biz P g .append [t, u] [x, .sl f 1 (ints zs)] .mk) K .mk := by
 refine append_own (z := 0) (N := N) he hz rfl hu hx hN0 src_ints (by simp) ok_ints hn0 ?_
 intro v' g' o
 refine hk v' g' ?_
 unfold OwnI
 rw [List.map_append, List.length_append]
 exact o
theorem cloneI_ok {f : Adr} {zs : List Int} {g : H2} (hn0 : zs.length ≤ 1048576) : PI Tryz.prog W0 134 [.sl f 1 (ints zs)] g zs := by
 refine WC2.asm fun hp s o => ?_
 have hnil := nil_of (o _ List.mem_cons_self)
 refine begins [[0], [0], [], [0]] Tryz.func134 rfl (rs := [.tmp 2]) rfl rfl ?_
 intro wf
 repeat (first | rw [ko] | rw [kr] | simp -dsimp -implicitDefEqProofs only [go_sem])
 refine gz_intro (fun h1 => ?_) (fun h1 => ?_)
 ·have : zs = [] := by have := hnil h1; simpa [ints] using this
  subst this
  repeat (first | rw [ko] | rw [kr] | simp -dsimp -implicitDefEqProofs only [go_sem])
  exact ⟨H2.le.refl _, Own.nil⟩
 ·repeat (first | rw [ko] | rw [kr] | simp -dsimp -implicitDefEqProofs only [go_sem, rq1, rq3])
  refine append_ints (D := fun _ => none) (N := hn g .mk) (xs := []) Go.Ai.ty_el27 Go.Ai.ty_zr3 Go.Ai.ty_cl27 (Own.new (Nat.le_refl _) rfl) (by simp only [hn_push]; omega) (by simp; have : Go.Ai.most = 1099511627776 := rfl; omega) ?_
  intro v' g' o' hn' hle _
  repeat (first | rw [ko] | rw [kr] | simp -dsimp -implicitDefEqProofs only [go_sem])
  exact ⟨hle g (Nat.le_refl _) (H2.le_push1 g _), by simpa using o'⟩
theorem inI_t {x a b : Int} (h : inI x a b = true) : a ≤ x ∧ x ≤ b := by simpa [inI] using h
end Go.Bi
end
section
set_option maxRecDepth 20000
namespace Go.Bi
open Go.Proofs
open Go.Ai (wrap_i64 wrap_u8 Heap)
variable {W0 : World} {P : Program}
theorem any_getD {α : Type} [Inhabited α] {ss : List α} {p : α → Bool} {k : Nat} (hk : k < ss.length) (h : p (ss.getD k default) = true) : ss.any p = true :=
 List.any_eq_true.2 ⟨_, List.getElem_mem hk, by rw [List.getD_eq_getElem?_getD, List.getElem?_eq_getElem hk] at h; exact h⟩
theorem any_none {α : Type} [Inhabited α] {ss : List α} {p : α → Bool} (h : ∀ j, j < ss.length → p (ss.getD j default) = false) : ss.any p = false := by
 rw [List.any_eq_false]
 intro x hx
 obtain ⟨j, hj, rfl⟩ := List.getElem_of_mem hx
 have := h j hj
 rw [List.getD_eq_getElem?_getD, List.getElem?_eq_getElem hj] at this
 simpa using this
theorem all_none {α : Type} [Inhabited α] {ss : List α} {p : α → Bool} {k : Nat} (hk : k < ss.length) (h : p (ss.getD k default) = false) : ss.all p = false := by
 rw [List.all_eq_not_any_not, any_getD hk (p := fun x => !p x) (by simp only [h]; rfl)]; rfl
theorem all_getD {α : Type} [Inhabited α] {ss : List α} {p : α → Bool} (h : ∀ j, j < ss.length → p (ss.getD j default) = true) : ss.all p = true := by
 rw [List.all_eq_not_any_not, any_none (p := fun x => !p x) (fun j hj => by simp only [h j hj]; rfl)]; rfl
theorem indexS_ok {F : FuncId} {p : ByteArray → Bool} {caps : List Value} {f : Adr} {ss : List ByteArray} {h : H2} (hn0 : ss.length ≤ 9223372036854775807)
  (hf : ∀ s, WC2 Tryz.prog W0 F ([.raw (.string s)] ++ caps.map .raw) h (fun v h' => v = .raw (.bool (p s)) ∧ h' = h)) :
  WC2 Tryz.prog W0 213 [.sl f 1 (strs ss), .raw (.func (.func F) #[] caps.toArray)] h (fun v h' => (∃ k : Int, v = .raw (.int .i64 k) ∧ decide (0 ≤ k) = ss.any p) ∧ h' = h) := by
 refine begins [[0, 1], [0, 1], [0, 1, 7, 8], [0, 1, 7, 8], [0, 1, 5, 7, 8], [5], [0, 1, 7, 8], []] Tryz.func213 rfl (rs := [.tmp 4]) rfl rfl ?_
 intro wf
 repeat (first | rw [ko] | rw [kr] | simp -dsimp -implicitDefEqProofs only [go_sem])
 refine lz_keep [0, 1, 7] (fun m e h' => h' = h ∧ ∃ k : Nat, look e 8 .mk = .raw (.int .i64 k) ∧ m + k = ss.length ∧ ∀ j : Nat, j < k → p (ss.getD j default) = false) ss.length ?_ ?_
 ·exact ⟨rfl, 0, zsm, by omega, fun j hj => by omega⟩
 ·rintro m e h hks ⟨rfl, k, e8, hk, hpre⟩
  simp -dsimp -implicitDefEqProofs only [go_sem, rq1] at hks
  repeat (first | rw [ko] | rw [kr] | simp -dsimp -implicitDefEqProofs only [go_sem, hks, e8])
  refine gz_dec (fun h2 => ?_) (fun h2 => ?_)
  ·have h3 : k < ss.length := by omega
   repeat (first | rw [ko] | rw [kr] | simp -dsimp -implicitDefEqProofs only [go_sem, rq1, h3])
   refine wz_intro (hf _) ?_
   rintro _ h' ⟨rfl, rfl⟩
   repeat (first | rw [ko] | rw [kr] | simp -dsimp -implicitDefEqProofs only [go_sem])
   refine gz_intro (fun h4 => ?_) (fun h4 => ?_)
   ·repeat (first | rw [ko] | rw [kr] | simp -dsimp -implicitDefEqProofs only [go_sem, rq1])
    exact ⟨⟨_, rfl, by rw [any_getD h3 h4]; simp⟩, rfl⟩
   ·repeat (first | rw [ko] | rw [kr] | simp -dsimp -implicitDefEqProofs only [go_sem, rq1, wrap_succ h3 hn0])
    refine nx_keep (m - 1) (by omega) zsm ⟨rfl, k + 1, zsm, by omega, fun j hj => ?_⟩
    by_cases hji : j = k
    ·subst hji; exact h4
    ·exact hpre j (by omega)
  ·repeat (first | rw [ko] | rw [kr] | simp -dsimp -implicitDefEqProofs only [go_sem])
   exact ⟨⟨_, rfl, by rw [any_none fun j hj => hpre j (by omega)]; rfl⟩, rfl⟩
theorem containsS_ok {F : FuncId} {p : ByteArray → Bool} {caps : List Value} {f : Adr} {ss : List ByteArray} {h : H2} (hn0 : ss.length ≤ 9223372036854775807)
  (hf : ∀ s, WC2 Tryz.prog W0 F ([.raw (.string s)] ++ caps.map .raw) h (fun v h' => v = .raw (.bool (p s)) ∧ h' = h)) :
  WC2 Tryz.prog W0 152 [.sl f 1 (strs ss), .raw (.func (.func F) #[] caps.toArray)] h (fun v h' => v = .raw (.bool (ss.any p)) ∧ h' = h) := by
 refine begins [[0, 1], [0, 1]] Tryz.func152 rfl (rs := [.tmp 4]) rfl rfl ?_
 intro wf
 repeat (first | rw [ko] | rw [kr] | simp -dsimp -implicitDefEqProofs only [go_sem])
 refine wz_intro (indexS_ok hn0 hf) ?_
 rintro _ h' ⟨⟨k, rfl, hk⟩, rfl⟩
 repeat (first | rw [ko] | rw [kr] | simp -dsimp -implicitDefEqProofs only [go_sem, hk])
 exact ⟨rfl, rfl⟩
theorem containsI_ok {F : FuncId} {p : Int → Bool} {caps : List Value} {f : Adr} {ss : List Int} {h : H2} (hn0 : ss.length ≤ 9223372036854775807)
  (hf : ∀ s, WC2 Tryz.prog W0 F ([.raw (.int .i64 s)] ++ caps.map .raw) h (fun v h' => v = .raw (.bool (p s)) ∧ h' = h)) :
  WC2 Tryz.prog W0 154 [.sl f 1 (ints ss), .raw (.func (.func F) #[] caps.toArray)] h (fun v h' => v = .raw (.bool (ss.any p)) ∧ h' = h) := by
 refine begins [[0, 1], [0, 1]] Tryz.func154 rfl (rs := [.tmp 4]) rfl rfl ?_
 intro wf
 repeat (first | rw [ko] | rw [kr] | simp -dsimp -implicitDefEqProofs only [go_sem])
 refine wz_intro (indexI_ok hn0 hf) ?_
 rintro _ h' ⟨⟨k, rfl, hk⟩, rfl⟩
 repeat (first | rw [ko] | rw [kr] | simp -dsimp -implicitDefEqProofs only [go_sem, hk])
 exact ⟨rfl, rfl⟩
theorem allIn1_ok {b1 b2 z1 z2 : Nat} {x y : Int} {h : H2} (h1 : hg h b1 .mk = some ⟨z1, [.raw (.int .i64 x)]⟩) (h2 : hg h b2 .mk = some ⟨z2, [.raw (.int .i64 y)]⟩) (s : Int) :
  WC2 Tryz.prog W0 155 ([.raw (.int .i64 s)] ++ [Value.pointer (some ⟨b1, 0, none⟩), .pointer (some ⟨b2, 0, none⟩)].map .raw) h (fun v h' => v = .raw (.bool (!inI s x y)) ∧ h' = h) := by
 simp only [List.cons_append, List.nil_append, List.map_cons, List.map_nil]
 refine begins [[0, 1, 2], [0, 1, 2]] Tryz.func155 rfl (rs := [.tmp 4]) rfl rfl ?_
 intro wf
 repeat (first | rw [ko] | rw [kr] | simp -dsimp -implicitDefEqProofs only [go_sem, h1, h2])
 refine wz_intro in_ok ?_
 rintro _ h' ⟨rfl, rfl⟩
 repeat (first | rw [ko] | rw [kr] | simp -dsimp -implicitDefEqProofs only [go_sem])
 exact ⟨rfl, rfl⟩
def allI (zs : List Int) (x y : Int) : Bool := zs.all fun s => inI s x y
theorem allIn_ok {f : Adr} {zs : List Int} {x y : Int} {h : H2} (hn0 : zs.length ≤ 9223372036854775807) :
  PW Tryz.prog W0 59 [.sl f 1 (ints zs), .raw (.int .i64 x), .raw (.int .i64 y)] h (fun r => r = .raw (.bool (allI zs x y))) := by
 refine PW.scalar ?_
 refine begins [[0, 1, 2], [0, 4, 5]] Tryz.func59 rfl (rs := [.tmp 6]) rfl rfl ?_
 intro wf
 repeat (first | rw [ko] | rw [kr] | simp -dsimp -implicitDefEqProofs only [go_sem, rq1])
 refine wz_intro (containsI_ok hn0 (allIn1_ok (x := x) (y := y) (z1 := 1) (z2 := 1) ?_ ?_)) ?_
 ·simp -dsimp -implicitDefEqProofs only [go_sem]
 ·simp -dsimp -implicitDefEqProofs only [go_sem]
 rintro _ h' ⟨rfl, rfl⟩
 repeat (first | rw [ko] | rw [kr] | simp -dsimp -implicitDefEqProofs only [go_sem])
 exact ⟨le_push (H2.le_push1 h _), ⟨_, rfl⟩, by rw [allI, List.all_eq_not_any_not]⟩
theorem l05All_ok {f : Adr} {zs : List Int} {x y : Int} {h : H2} (hn0 : zs.length ≤ 9223372036854775807) :
  PW Tryz.prog W0 139 [.sl f 1 (ints zs), .raw (.int .i64 x), .raw (.int .i64 y)] h (fun r => r = .raw (.bool (allI zs x y))) := by
 refine PW.scalar ?_
 refine begins [[0, 1, 2], [0, 1, 2], [0, 1, 2, 7], [0, 1, 2, 7], [0, 1, 2, 7], [], []] Tryz.func139 rfl (rs := [.tmp 6]) rfl rfl ?_
 intro wf
 repeat (first | rw [ko] | rw [kr] | simp -dsimp -implicitDefEqProofs only [go_sem, rq1])
 refine lz_keep [0, 1, 2] (fun m e h' => h' = h ∧ ∃ k : Nat, look e 7 .mk = .raw (.int .i64 k) ∧ m + k = zs.length ∧ ∀ j : Nat, j < k → inI (zs.getD j default) x y = true) zs.length ?_ ?_
 ·exact ⟨rfl, 0, zsm, by omega, fun j hj => by omega⟩
 ·rintro m e h hks ⟨rfl, k, e4, hk, hpre⟩
  simp -dsimp -implicitDefEqProofs only [go_sem, rq1] at hks
  repeat (first | rw [ko] | rw [kr] | simp -dsimp -implicitDefEqProofs only [go_sem, rq1, hks, e4])
  refine gz_dec (fun h2 => ?_) (fun h2 => ?_)
  ·have h3 : k < zs.length := by omega
   repeat (first | rw [ko] | rw [kr] | simp -dsimp -implicitDefEqProofs only [go_sem, rq1, h3])
   refine wz_intro l01In_ok ?_
   rintro _ h' ⟨rfl, rfl⟩
   cases hi : inI (zs.getD k default) x y
   ·repeat (first | rw [ko] | rw [kr] | simp -dsimp -implicitDefEqProofs only [go_sem])
    exact ⟨H2.le.refl _, ⟨_, rfl⟩, by rw [allI, all_none h3 hi]⟩
   ·repeat (first | rw [ko] | rw [kr] | simp -dsimp -implicitDefEqProofs only [go_sem, rq1, wrap_succ h3 hn0])
    refine nx_keep (m - 1) (by omega) zsm ⟨rfl, k + 1, zsm, by omega, fun j hj => ?_⟩
    by_cases hji : j = k
    ·subst hji; exact hi
    ·exact hpre j (by omega)
  ·repeat (first | rw [ko] | rw [kr] | simp -dsimp -implicitDefEqProofs only [go_sem])
   exact ⟨H2.le.refl _, ⟨_, rfl⟩, by rw [allI, all_getD fun j hj => hpre j (by omega)]⟩
def stopsOk (ss : List ByteArray) : Bool := ss.all fun s => inI s.size 1 8
def cfgOk (c : LConfig) : Bool := inI c.top 1 8 && (inI c.seed 0 1000000000 && (inI c.new 1 24 && (decide ((c.stops.length : Int) ≤ 3) && stopsOk c.stops)))
theorem cfg1_ok (s : ByteArray) {h : H2} : WC2 Tryz.prog W0 153 ([.raw (.string s)] ++ ([] : List Value).map .raw) h (fun v h' => v = .raw (.bool (!inI s.size 1 8)) ∧ h' = h) := by
 simp only [List.map_nil, List.append_nil]
 refine begins [[0], [0]] Tryz.func153 rfl (rs := [.tmp 2]) rfl rfl ?_
 intro wf
 repeat (first | rw [ko] | rw [kr] | simp -dsimp -implicitDefEqProofs only [go_sem])
 refine wz_intro in_ok ?_
 rintro _ h' ⟨rfl, rfl⟩
 repeat (first | rw [ko] | rw [kr] | simp -dsimp -implicitDefEqProofs only [go_sem])
 exact ⟨rfl, rfl⟩
theorem implConfigOk_ok {F : Nat → Adr} {c : LConfig} {h : H2} (hn0 : c.stops.length ≤ 9223372036854775807) : PW Tryz.prog W0 58 [.st (xConfig F c)] h (fun r => r = .raw (.bool (cfgOk c))) := by
 refine PW.scalar ?_
 refine begins [[0], [1]] Tryz.func58 rfl (rs := [.tmp 2]) rfl rfl ?_
 intro wf
 repeat (first | rw [ko] | rw [kr] | simp -dsimp -implicitDefEqProofs only [go_sem])
 refine wz_intro in_ok ?_
 rintro _ h' ⟨rfl, rfl⟩
 unfold cfgOk
 cases h1 : inI c.top 1 8
 ·repeat (first | rw [ko] | rw [kr] | simp -dsimp -implicitDefEqProofs only [go_sem])
  exact ⟨H2.le_push1 h _, ⟨_, rfl⟩, rfl⟩
 repeat (first | rw [ko] | rw [kr] | simp -dsimp -implicitDefEqProofs only [go_sem, rq1])
 refine wz_intro in_ok ?_
 rintro _ h' ⟨rfl, rfl⟩
 cases h2 : inI c.seed 0 1000000000
 ·repeat (first | rw [ko] | rw [kr] | simp -dsimp -implicitDefEqProofs only [go_sem])
  exact ⟨H2.le_push1 h _, ⟨_, rfl⟩, rfl⟩
 repeat (first | rw [ko] | rw [kr] | simp -dsimp -implicitDefEqProofs only [go_sem, rq1])
 refine wz_intro in_ok ?_
 rintro _ h' ⟨rfl, rfl⟩
 cases h3 : inI c.new 1 24
 ·repeat (first | rw [ko] | rw [kr] | simp -dsimp -implicitDefEqProofs only [go_sem])
  exact ⟨H2.le_push1 h _, ⟨_, rfl⟩, rfl⟩
 repeat (first | rw [ko] | rw [kr] | simp -dsimp -implicitDefEqProofs only [go_sem, rq1])
 refine gz_dec (fun h4 => ?_) (fun h4 => ?_)
 ·repeat (first | rw [ko] | rw [kr] | simp -dsimp -implicitDefEqProofs only [go_sem, rq1, h4])
  refine wz_intro (containsS_ok (caps := []) hn0 (fun s => cfg1_ok s)) ?_
  rintro _ h' ⟨rfl, rfl⟩
  repeat (first | rw [ko] | rw [kr] | simp -dsimp -implicitDefEqProofs only [go_sem, h4])
  exact ⟨H2.le_push1 h _, ⟨_, rfl⟩, by simp only [stopsOk, List.all_eq_not_any_not, h4, decide_true, Bool.true_and]⟩
 ·repeat (first | rw [ko] | rw [kr] | simp -dsimp -implicitDefEqProofs only [go_sem, h4])
  exact ⟨H2.le_push1 h _, ⟨_, rfl⟩, by simp only [h4, decide_false, Bool.true_and, Bool.false_and]⟩
theorem specConfigOk_ok {F : Nat → Adr} {c : LConfig} {h : H2} (hn0 : c.stops.length ≤ 9223372036854775807) : PW Tryz.prog W0 158 [.st (xConfig F c)] h (fun r => r = .raw (.bool (cfgOk c))) := by
 refine PW.scalar ?_
 refine begins [[0], [1], [], [1], [1, 3], [1, 3], [1, 3], [], []] Tryz.func158 rfl (rs := [.tmp 2]) rfl rfl ?_
 intro wf
 repeat (first | rw [ko] | rw [kr] | simp -dsimp -implicitDefEqProofs only [go_sem])
 refine wz_intro l01In_ok ?_
 rintro _ h' ⟨rfl, rfl⟩
 unfold cfgOk
 cases h1 : inI c.top 1 8
 ·repeat (first | rw [ko] | rw [kr] | simp -dsimp -implicitDefEqProofs only [go_sem])
  exact ⟨H2.le_push1 h _, ⟨_, rfl⟩, rfl⟩
 repeat (first | rw [ko] | rw [kr] | simp -dsimp -implicitDefEqProofs only [go_sem, rq1])
 refine wz_intro l01In_ok ?_
 rintro _ h' ⟨rfl, rfl⟩
 cases h2 : inI c.seed 0 1000000000
 ·repeat (first | rw [ko] | rw [kr] | simp -dsimp -implicitDefEqProofs only [go_sem])
  exact ⟨H2.le_push1 h _, ⟨_, rfl⟩, rfl⟩
 repeat (first | rw [ko] | rw [kr] | simp -dsimp -implicitDefEqProofs only [go_sem, rq1])
 refine wz_intro l01In_ok ?_
 rintro _ h' ⟨rfl, rfl⟩
 cases h3 : inI c.new 1 24
 ·repeat (first | rw [ko] | rw [kr] | simp -dsimp -implicitDefEqProofs only [go_sem])
  exact ⟨H2.le_push1 h _, ⟨_, rfl⟩, rfl⟩
 repeat (first | rw [ko] | rw [kr] | simp -dsimp -implicitDefEqProofs only [go_sem, rq1])
 refine gz_dec (fun h4 => ?_) (fun h4 => ?_)
 ·have h5 : ¬ (c.stops.length : Int) ≤ 3 := by omega
  repeat (first | rw [ko] | rw [kr] | simp -dsimp -implicitDefEqProofs only [go_sem])
  exact ⟨H2.le_push1 h _, ⟨_, rfl⟩, by simp [h5]⟩
 ·have h5 : (c.stops.length : Int) ≤ 3 := by omega
  repeat (first | rw [ko] | rw [kr] | simp -dsimp -implicitDefEqProofs only [go_sem, rq1])
  refine lz_keep [1] (fun m e h' => h' = h.push ⟨4, xConfig F c⟩ ∧ ∃ k : Nat, look e 3 .mk = .raw (.int .i64 k) ∧ m + k = c.stops.length ∧ ∀ j : Nat, j < k → inI (c.stops.getD j default).size 1 8 = true) c.stops.length ?_ ?_
  ·exact ⟨by simp only [xConfig], 0, zsm, by omega, fun j hj => by omega⟩
  ·rintro m e h hks ⟨rfl, k, e4, hk, hpre⟩
   simp -dsimp -implicitDefEqProofs only [go_sem] at hks
   repeat (first | rw [ko] | rw [kr] | simp -dsimp -implicitDefEqProofs only [go_sem, rq1, hks, e4])
   refine gz_dec (fun h2 => ?_) (fun h2 => ?_)
   ·have h3 : k < c.stops.length := by omega
    repeat (first | rw [ko] | rw [kr] | simp -dsimp -implicitDefEqProofs only [go_sem, rq1, h3])
    refine wz_intro l01In_ok ?_
    rintro _ h' ⟨rfl, rfl⟩
    cases hi : inI (c.stops.getD k default).size 1 8
    ·repeat (first | rw [ko] | rw [kr] | simp -dsimp -implicitDefEqProofs only [go_sem])
     exact ⟨H2.le_push1 _ _, ⟨_, rfl⟩, by rw [stopsOk, all_none h3 hi]; simp⟩
    ·repeat (first | rw [ko] | rw [kr] | simp -dsimp -implicitDefEqProofs only [go_sem, rq1, wrap_succ h3 hn0])
     refine nx_keep (m - 1) (by omega) zsm ⟨rfl, k + 1, zsm, by omega, fun j hj => ?_⟩
     by_cases hji : j = k
     ·subst hji; exact hi
     ·exact hpre j (by omega)
   ·repeat (first | rw [ko] | rw [kr] | simp -dsimp -implicitDefEqProofs only [go_sem])
    exact ⟨H2.le_push1 _ _, ⟨_, rfl⟩, by rw [stopsOk, all_getD fun j hj => hpre j (by omega)]; simp [h5]⟩
end Go.Bi
end
