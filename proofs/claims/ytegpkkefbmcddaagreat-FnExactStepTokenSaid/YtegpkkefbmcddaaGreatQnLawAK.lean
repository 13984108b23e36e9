/- Own lemmas that the theorem of this claim needs: the abstract machine and walks of functions. -/
import Derived.Test.YtegpkkefbmcddaaGreatQnLawAJ
set_option linter.unusedSimpArgs false
set_option linter.unusedVariables false
open Nat renaming reduceBEq → sQ1, reduceAdd → sQ2, reduceLeDiff → sQ3, reduceMul → sQ4
open Int renaming reduceLE → sQ5, reduceLT → sQ6, reduceBEq → sQ7
section
set_option maxRecDepth 20000
namespace Go.Bi
open Go.Proofs
open Go.Ai (wrap_i64)
variable {W0 : World}
structure LPart where
 shift : Int
 values : List Int
instance : Inhabited LPart := ⟨⟨default, default⟩⟩
def ePart (c : LPart) : List T := [.v (.int .i64 c.shift), .l 1 (ints c.values)]
def xPart (F : Nat → Adr) (c : LPart) : List X := [.raw (.int .i64 c.shift), .sl (F 1) 1 (ints c.values)]
theorem ePart_def {c : LPart} : ePart c = [.v (.int .i64 c.shift), .l 1 (ints c.values)] := rfl
theorem xPart_def {F : Nat → Adr} {c : LPart} : xPart F c = [.raw (.int .i64 c.shift), .sl (F 1) 1 (ints c.values)] := rfl
def szPart (c : LPart) : Nat := c.values.length
def fitPart (c : LPart) : Prop := c.values.length ≤ 9223372036854775807
attribute [go_sem] ePart_def xPart_def
theorem outPart {g : H2} {c : LPart} {b1 : List Nat} {s1 : X} (a1 : OT g b1 s1 (.l 1 (ints c.values))) : OTs g (b1) [.raw (.int .i64 c.shift), s1] (ePart c) := by
 have := OTs.cons (OT.raw (v := .int .i64 c.shift) rfl) (OTs.cons a1 (OTs.nil))
 simpa only [ePart, List.append_nil, List.nil_append] using this
theorem szPart_ok {F : Nat → Adr} {c : LPart} {left : Int} {h : H2} (hf : fitPart c) (hl : 0 ≤ left ∧ left ≤ 1048576) : PW Tryz.prog W0 200 [.st (xPart F c), .raw (.int .i64 left)] h (fun y => ∃ k : Int, y = .raw (.int .i64 k) ∧ (0 ≤ k → (szPart c : Int) + k ≤ left)) := by
 unfold fitPart at hf
 refine PW.scalar ?_
 refine begins [[0, 1], [1, 2], [1], [], [1]] Tryz.func200 rfl (rs := [.tmp 4]) rfl rfl ?_
 intro wf
 repeat (first | rw [ko] | rw [kr] | simp -dsimp -implicitDefEqProofs only [go_sem, sQ1])
 refine pw_intro (szIntS_pw  hf ⟨by omega, by omega⟩) ?_
 rintro _ n1 hn1 ⟨k1, rfl, hk1⟩
 repeat (first | rw [ko] | rw [kr] | simp -dsimp -implicitDefEqProofs only [go_sem])
 refine gz_dec (fun q1 => ?_) (fun q1 => ?_)
 ·repeat (first | rw [ko] | rw [kr] | simp -dsimp -implicitDefEqProofs only [go_sem])
  exact ⟨zale, ⟨_, rfl⟩, _, rfl, fun hh => by omega⟩
 repeat (first | rw [ko] | rw [kr] | simp -dsimp -implicitDefEqProofs only [go_sem, sQ1])
 exact ⟨zale, ⟨_, rfl⟩, _, rfl, fun hh => by unfold szPart; omega⟩
theorem eqPart_ok {F F' : Nat → Adr} {c : LPart} {h : H2} (hf : fitPart c) : PW Tryz.prog W0 192 [.st (xPart F c), .st (xPart F' c)] h (fun y => y = .raw (.bool true)) := by
 unfold fitPart at hf
 refine PW.scalar ?_
 refine begins [[0, 1], [2, 3], [], [2, 3], [], []] Tryz.func192 rfl (rs := [.tmp 4]) rfl rfl ?_
 intro wf
 repeat (first | rw [ko] | rw [kr] | simp -dsimp -implicitDefEqProofs only [go_sem, sQ1])
 refine pw_intro (eqIntS_pw  hf) ?_
 rintro _ n1 hn1 rfl
 repeat (first | rw [ko] | rw [kr] | simp -dsimp -implicitDefEqProofs only [go_sem])
 exact ⟨zale, ⟨_, rfl⟩, rfl⟩
theorem toPart_ok {F : Nat → Adr} {c : LPart} {h : H2} (hs : szPart c ≤ 1048576) : NewS Tryz.prog W0 211 [.st (xPart F c)] h (ePart c) := by
 unfold szPart at hs
 refine begins [[0], [1, 2], [1, 2, 3], [1, 2, 3], [2, 3]] Tryz.func211 rfl (rs := [.cell 2 196]) rfl rfl ?_
 intro wf
 repeat (first | rw [ko] | rw [kr] | simp -dsimp -implicitDefEqProofs only [go_sem, sQ1])
 refine wz_intro (toIntS_new  (by omega)) ?_
 rintro s1 g1 ⟨l1, b1, o1, bl1⟩
 have ce1 := OT.cell o1
 have n1 := l1.n
 have a10 := l1.2 (hn h .mk) (by simp only [hn_push, hn_set]; omega)
 have a11 := l1.2 (hn h .mk + 1) (by simp only [hn_push, hn_set]; omega)
 have a12 := l1.2 (hn h .mk + 1 + 1) (by simp only [hn_push, hn_set]; omega)
 simp -dsimp -implicitDefEqProofs only [go_sem, hoo] at n1 a10 a11 a12
 have L1 : h.le g1 := H2.le.trans zale l1
 repeat (first | rw [ko] | rw [kr] | simp -dsimp -implicitDefEqProofs only [go_sem, sQ1, sQ2, a11, a12, ce1])
 refine ⟨zale, _, b1, rfl, outPart (c := c) ?_, ?_⟩
 ·refine OT.frame o1 fun b hb => ?_
  have hbl := bl1.2 b (hb)
  simp only [hn_push, hn_set] at hbl
  simp only [H2.set]
  rw [if_neg (by omega), if_neg (by omega)]
 ·simp only [hn_set]
  have m1 := bl1
  simp only [hn_push, hn_set] at m1
  have := (m1).wide (N' := hn h .mk) (by omega) (Nat.le_refl _)
  simpa only [List.append_assoc] using this
def rPartS (zs : List LPart) : List (List T) := zs.map ePart
theorem rPartS_len {zs : List LPart} : (rPartS zs).length = zs.length := by simp [rPartS]
theorem rPartS_el {zs : List LPart} {i : Nat} (hi : i < zs.length) : el (rPartS zs) i = ePart (zs.getD i default) := el_map hi
attribute [go_sem] rPartS_len rPartS_el
def szPartS (zs : List LPart) : Nat := zs.length + sumN szPart zs
def fitPartS (zs : List LPart) : Prop := zs.length ≤ 9223372036854775807 ∧ ∀ x ∈ zs, fitPart x
theorem szPartS_pw {f : Adr} {zs : List LPart} {left : Int} {h : H2} (hf : fitPartS zs) (hl : 0 ≤ left ∧ left ≤ 1048576) : PW Tryz.prog W0 151 [.sl f 2 (rPartS zs), .raw (.int .i64 left)] h (fun y => ∃ k : Int, y = .raw (.int .i64 k) ∧ (0 ≤ k → (szPartS zs : Int) + k ≤ left)) := by
 obtain ⟨hf1, hf2⟩ := hf
 unfold szPartS
 have hw : IntKind.i64.wrap (left - zs.length) = left - zs.length := by rw [wrap_i64] <;> omega
 refine PW.scalar ?_
 refine begins [[0, 1], [0, 1], [0, 1], [], [0, 1], [0, 1, 5], [0, 1, 5], [0, 1, 5], [0, 1, 5], [], [1]] Tryz.func151 rfl (rs := [.tmp 4]) rfl rfl ?_
 intro wf
 repeat (first | rw [ko] | rw [kr] | simp -dsimp -implicitDefEqProofs only [go_sem, sQ1, hw])
 refine gz_dec (fun h1 => ?_) (fun h1 => ?_)
 ·repeat (first | rw [ko] | rw [kr] | simp -dsimp -implicitDefEqProofs only [go_sem])
  exact ⟨H2.le.refl _, ⟨_, rfl⟩, _, rfl, fun hh => by omega⟩
 ·repeat (first | rw [ko] | rw [kr] | simp -dsimp -implicitDefEqProofs only [go_sem, sQ1])
  refine lz_keep [0] (fun m e h' => ∃ (k n : Nat) (x : Int), h' = h.up n ∧ hn h .mk ≤ n ∧ look e 5 .mk = .raw (.int .i64 k) ∧ look e 1 .mk = .raw (.int .i64 x) ∧ 0 ≤ x ∧ (zs.length : Int) + sumN szPart (zs.take k) + x ≤ left ∧ m + k = zs.length) zs.length ?_ ?_
  ·exact ⟨0, hn h .mk, left - zs.length, up_self, Nat.le_refl _, zsm, zsm, by omega, by simp [sumN]; omega, by omega⟩
  ·rintro m e h' hks ⟨k, n, x, rfl, hnn, e5, e1, hx, hsum, hk⟩
   simp -dsimp -implicitDefEqProofs only [go_sem, sQ1] at hks
   by_cases h2 : (k : Int) < (zs.length : Int)
   ·have h3 : k < zs.length := by omega
    have hst : sumN szPart (zs.take (k + 1)) = sumN szPart (zs.take k) + szPart (zs.getD k default) := sumN_take (f := szPart) h3
    repeat (first | rw [ko] | rw [kr] | simp -dsimp -implicitDefEqProofs only [go_sem, sQ1, sQ2, sQ3, hks, e5, e1, h2, h3])
    refine pw_intro (szPart_ok (F := under (under f k)) (c := zs.getD k default) (hf2 _ (getD_mem h3)) ⟨by omega, by omega⟩) ?_
    rintro _ n2 hn2 ⟨x2, rfl, hx2⟩
    simp only [hn_up] at hn2
    repeat (first | rw [ko] | rw [kr] | simp -dsimp -implicitDefEqProofs only [go_sem, sQ1])
    refine gz_dec (fun h4 => ?_) (fun h4 => ?_)
    ·repeat (first | rw [ko] | rw [kr] | simp -dsimp -implicitDefEqProofs only [go_sem])
     exact ⟨(by first | exact le_up (H2.le.refl _) (by omega) | exact le_up (le_up (H2.le.refl _) hnn) (by rw [hn_up]; omega)), ⟨_, rfl⟩, _, rfl, fun hh => by omega⟩
    ·repeat (first | rw [ko] | rw [kr] | simp -dsimp -implicitDefEqProofs only [go_sem, sQ1, wrap_succ h3 hf1])
     exact nx_keep (m - 1) (by omega) zsm ⟨k + 1, n2, x2, up_up, by omega, zsm, zsm, by omega, by have := hx2 (by omega); omega, by omega⟩
   ·repeat (first | rw [ko] | rw [kr] | simp -dsimp -implicitDefEqProofs only [go_sem, sQ1, hks, e5, e1, h2])
    refine ⟨le_up (H2.le.refl _) hnn, ⟨_, rfl⟩, x, rfl, fun _ => ?_⟩
    rw [List.take_of_length_le (by omega)] at hsum
    omega
theorem eqPartS_pw {f f' : Adr} {zs : List LPart} {h : H2} (hf : fitPartS zs) : PW Tryz.prog W0 138 [.sl f 2 (rPartS zs), .sl f' 2 (rPartS zs)] h (fun y => y = .raw (.bool true)) := by
 obtain ⟨hf1, hf2⟩ := hf
 refine PW.scalar ?_
 refine begins [[0, 1], [0, 1], [], [0, 1], [0, 1, 5], [0, 1, 5], [0, 1, 5], [], []] Tryz.func138 rfl (rs := [.tmp 4]) rfl rfl ?_
 intro wf
 repeat (first | rw [ko] | rw [kr] | simp -dsimp -implicitDefEqProofs only [go_sem, sQ1])
 refine lz_keep [0, 1] (fun m e h' => ∃ (k n : Nat), h' = h.up n ∧ hn h .mk ≤ n ∧ look e 5 .mk = .raw (.int .i64 k) ∧ m + k = zs.length) zs.length ?_ ?_
 ·exact ⟨0, hn h .mk, up_self, Nat.le_refl _, zsm, by omega⟩
 ·rintro m e h' hks ⟨k, n, rfl, hnn, e5, hk⟩
  simp -dsimp -implicitDefEqProofs only [go_sem, sQ1] at hks
  by_cases h2 : (k : Int) < (zs.length : Int)
  ·have h3 : k < zs.length := by omega
   repeat (first | rw [ko] | rw [kr] | simp -dsimp -implicitDefEqProofs only [go_sem, sQ1, hks, e5, h2])
   refine dq_intro [(0, []), (1, []), (2, []), (3, []), (4, []), (5, []), (6, []), (7, []), (8, []), (9, [])] (by kernel_rfl) ?_
   repeat (first | rw [ko] | rw [kr] | simp -dsimp -implicitDefEqProofs only [go_sem, sQ1, sQ2, sQ3, h3])
   refine pw_intro (eqPart_ok (F := under (under f k)) (F' := under (under f' k)) (c := zs.getD k default) (hf2 _ (getD_mem h3))) ?_
   rintro _ n2 hn2 rfl
   simp only [hn_up] at hn2
   repeat (first | rw [ko] | rw [kr] | simp -dsimp -implicitDefEqProofs only [go_sem, sQ1, wrap_succ h3 hf1])
   exact nx_keep (m - 1) (by omega) zsm ⟨k + 1, n2, up_up, by omega, zsm, by omega⟩
  ·repeat (first | rw [ko] | rw [kr] | simp -dsimp -implicitDefEqProofs only [go_sem, sQ1, hks, e5, h2])
   exact ⟨le_up (H2.le.refl _) hnn, ⟨_, rfl⟩, rfl⟩
theorem toPartS_new {f : Adr} {zs : List LPart} {h : H2} (hs : szPartS zs ≤ 1048576) : NewT Tryz.prog W0 169 [.sl f 2 (rPartS zs)] h (.l 2 (rPartS zs)) := by
 unfold szPartS at hs
 have hE : ∀ a, (ePart a).length = 2 := fun a => rfl
 refine begins [[0], [0], [0, 3], [0, 3, 4], [0, 3, 4], [0, 3, 4], [3]] Tryz.func169 rfl (rs := [.tmp 2]) rfl rfl ?_
 intro wf
 repeat (first | rw [ko] | rw [kr] | simp -dsimp -implicitDefEqProofs only [go_sem])
 refine make_intro Ai.ty_el156 Ai.ty_zr196 (by decide) ⟨by omega, by simp only [Int.toNat_natCast]; have : Ai.most = 1099511627776 := rfl; omega⟩ ?_
 repeat (first | rw [ko] | rw [kr] | simp -dsimp -implicitDefEqProofs only [go_sem, sQ1])
 refine lz_keep [0, 3] (fun m e h' => ∃ (k : Nat) (cs : List X) (bs : List Nat), look e 4 .mk = .raw (.int .i64 k) ∧ m + k = zs.length ∧ hg h' (hn h .mk) .mk = some ⟨2, cs⟩ ∧ cs.length = zs.length * 2 ∧ OTs h' bs (cs.take (k * 2)) (((zs.take k).map ePart).flatten) ∧ Bl (hn h .mk + 1) (hn h' .mk) bs ∧ h.le h' ∧ hn h .mk < hn h' .mk) zs.length ?_ ?_
 ·exact ⟨0, _, [], zsm, by omega, (by rw [hg_push, hoo]; rfl), by simp [rep_len], by simpa using OTs.nil, Bl.nil, le_push (H2.le.refl _), by rw [hn_push]; omega⟩
 ·rintro m e h' hks ⟨k, cs, bs, e4, hk, hrow, hcs, ho, hbl, hle, hlt⟩
  simp -dsimp -implicitDefEqProofs only [go_sem] at hks
  by_cases h2 : (k : Int) < (zs.length : Int)
  ·have h3 : k < zs.length := by omega
   have hsm : szPart (zs.getD k default) ≤ sumN szPart zs := sumN_mem (f := szPart) (getD_mem h3)
   repeat (first | rw [ko] | rw [kr] | simp -dsimp -implicitDefEqProofs only [go_sem, sQ1, sQ2, sQ3, hks, e4, h2, h3])
   refine wz_intro (toPart_ok (F := under (under f k)) (c := zs.getD k default) (by omega)) ?_
   rintro _ g2 ⟨l2, ys, b2, rfl, o2, bl2⟩
   have nn2 := l2.1
   have hyl : (ys).length = 2 := (OTs.len o2).trans (hE _)
   have hyo := OTs.okx o2
   obtain ⟨w1, w2, w3⟩ := wrt_next hcs h3 hyl
   have row2 := (l2.2 (hn h .mk) hlt).trans hrow
   have hi2 : (0 : Int) ≤ (k : Int) ∧ (k : Int) < (zs.length : Int) := by omega
   repeat (first | rw [ko] | rw [kr] | simp -dsimp -implicitDefEqProofs only [go_sem, sQ1, row2, hi2, hyl, hyo, w1, wrap_succ h3 (by omega)])
   have hset : ∀ {b : Nat} {kk : OB}, b ≠ hn h .mk → (g2.set (hn h .mk) kk).get b = g2.get b := fun hb => by simp only [H2.set]; rw [if_neg hb]
   refine nx_keep (m - 1) (by omega) zsm ⟨k + 1, _, bs ++ b2, zsm, by omega, (by rw [hg_set, hoo]; rfl), w2, ?_, ?_, le_set (hle.trans l2) (Nat.le_refl _), by simp -dsimp -implicitDefEqProofs only [go_sem] <;> omega⟩
   ·rw [w3, flat_next h3]
    refine OTs.append ((OTs.keep ho l2 hbl).frame fun b hb => hset (by have := (hbl.2 b hb).1; omega)) (o2.frame fun b hb => hset (by have := (bl2.2 b hb).1; omega))
   ·rw [hn_set]
    exact hbl.append bl2 (by omega) nn2
  ·repeat (first | rw [ko] | rw [kr] | simp -dsimp -implicitDefEqProofs only [go_sem, sQ1, hks, e4, h2])
   have : k = zs.length := by omega
   subst this
   obtain ⟨q1, q2⟩ := OT.full hE hrow hcs ho hbl hlt
   exact ⟨hle, _, q1, q2⟩
def ePartS (zs : List LPart) : List T := [.l 2 (rPartS zs)]
theorem ePartS_def {zs : List LPart} : ePartS zs = [.l 2 (rPartS zs)] := rfl
attribute [go_sem] ePartS_def
def rPartSS (zs : List (List LPart)) : List (List T) := zs.map ePartS
theorem rPartSS_len {zs : List (List LPart)} : (rPartSS zs).length = zs.length := by simp [rPartSS]
theorem rPartSS_el {zs : List (List LPart)} {i : Nat} (hi : i < zs.length) : el (rPartSS zs) i = ePartS (zs.getD i default) := el_map hi
attribute [go_sem] rPartSS_len rPartSS_el
def szPartSS (zs : List (List LPart)) : Nat := zs.length + sumN szPartS zs
def fitPartSS (zs : List (List LPart)) : Prop := zs.length ≤ 9223372036854775807 ∧ ∀ x ∈ zs, fitPartS x
theorem szPartSS_pw {f : Adr} {zs : List (List LPart)} {left : Int} {h : H2} (hf : fitPartSS zs) (hl : 0 ≤ left ∧ left ≤ 1048576) : PW Tryz.prog W0 97 [.sl f 1 (rPartSS zs), .raw (.int .i64 left)] h (fun y => ∃ k : Int, y = .raw (.int .i64 k) ∧ (0 ≤ k → (szPartSS zs : Int) + k ≤ left)) := by
 obtain ⟨hf1, hf2⟩ := hf
 unfold szPartSS
 have hw : IntKind.i64.wrap (left - zs.length) = left - zs.length := by rw [wrap_i64] <;> omega
 refine PW.scalar ?_
 refine begins [[0, 1], [0, 1], [0, 1], [], [0, 1], [0, 1, 5], [0, 1, 5], [0, 1, 5], [0, 1, 5], [], [1]] Tryz.func97 rfl (rs := [.tmp 4]) rfl rfl ?_
 intro wf
 repeat (first | rw [ko] | rw [kr] | simp -dsimp -implicitDefEqProofs only [go_sem, sQ1, hw])
 refine gz_dec (fun h1 => ?_) (fun h1 => ?_)
 ·repeat (first | rw [ko] | rw [kr] | simp -dsimp -implicitDefEqProofs only [go_sem])
  exact ⟨H2.le.refl _, ⟨_, rfl⟩, _, rfl, fun hh => by omega⟩
 ·repeat (first | rw [ko] | rw [kr] | simp -dsimp -implicitDefEqProofs only [go_sem, sQ1])
  refine lz_keep [0] (fun m e h' => ∃ (k n : Nat) (x : Int), h' = h.up n ∧ hn h .mk ≤ n ∧ look e 5 .mk = .raw (.int .i64 k) ∧ look e 1 .mk = .raw (.int .i64 x) ∧ 0 ≤ x ∧ (zs.length : Int) + sumN szPartS (zs.take k) + x ≤ left ∧ m + k = zs.length) zs.length ?_ ?_
  ·exact ⟨0, hn h .mk, left - zs.length, up_self, Nat.le_refl _, zsm, zsm, by omega, by simp [sumN]; omega, by omega⟩
  ·rintro m e h' hks ⟨k, n, x, rfl, hnn, e5, e1, hx, hsum, hk⟩
   simp -dsimp -implicitDefEqProofs only [go_sem, sQ1] at hks
   by_cases h2 : (k : Int) < (zs.length : Int)
   ·have h3 : k < zs.length := by omega
    have hst : sumN szPartS (zs.take (k + 1)) = sumN szPartS (zs.take k) + szPartS (zs.getD k default) := sumN_take (f := szPartS) h3
    repeat (first | rw [ko] | rw [kr] | simp -dsimp -implicitDefEqProofs only [go_sem, sQ1, hks, e5, e1, h2, h3])
    refine pw_intro (szPartS_pw (hf2 _ (getD_mem h3)) ⟨by omega, by omega⟩) ?_
    rintro _ n2 hn2 ⟨x2, rfl, hx2⟩
    simp only [hn_up] at hn2
    repeat (first | rw [ko] | rw [kr] | simp -dsimp -implicitDefEqProofs only [go_sem, sQ1])
    refine gz_dec (fun h4 => ?_) (fun h4 => ?_)
    ·repeat (first | rw [ko] | rw [kr] | simp -dsimp -implicitDefEqProofs only [go_sem])
     exact ⟨(by first | exact le_up (H2.le.refl _) (by omega) | exact le_up (le_up (H2.le.refl _) hnn) (by rw [hn_up]; omega)), ⟨_, rfl⟩, _, rfl, fun hh => by omega⟩
    ·repeat (first | rw [ko] | rw [kr] | simp -dsimp -implicitDefEqProofs only [go_sem, sQ1, wrap_succ h3 hf1])
     exact nx_keep (m - 1) (by omega) zsm ⟨k + 1, n2, x2, up_up, by omega, zsm, zsm, by omega, by have := hx2 (by omega); omega, by omega⟩
   ·repeat (first | rw [ko] | rw [kr] | simp -dsimp -implicitDefEqProofs only [go_sem, sQ1, hks, e5, e1, h2])
    refine ⟨le_up (H2.le.refl _) hnn, ⟨_, rfl⟩, x, rfl, fun _ => ?_⟩
    rw [List.take_of_length_le (by omega)] at hsum
    omega
theorem eqPartSS_pw {f f' : Adr} {zs : List (List LPart)} {h : H2} (hf : fitPartSS zs) : PW Tryz.prog W0 65 [.sl f 1 (rPartSS zs), .sl f' 1 (rPartSS zs)] h (fun y => y = .raw (.bool true)) := by
 obtain ⟨hf1, hf2⟩ := hf
 refine PW.scalar ?_
 refine begins [[0, 1], [0, 1], [], [0, 1], [0, 1, 5], [0, 1, 5], [0, 1, 5], [], []] Tryz.func65 rfl (rs := [.tmp 4]) rfl rfl ?_
 intro wf
 repeat (first | rw [ko] | rw [kr] | simp -dsimp -implicitDefEqProofs only [go_sem, sQ1])
 refine lz_keep [0, 1] (fun m e h' => ∃ (k n : Nat), h' = h.up n ∧ hn h .mk ≤ n ∧ look e 5 .mk = .raw (.int .i64 k) ∧ m + k = zs.length) zs.length ?_ ?_
 ·exact ⟨0, hn h .mk, up_self, Nat.le_refl _, zsm, by omega⟩
 ·rintro m e h' hks ⟨k, n, rfl, hnn, e5, hk⟩
  simp -dsimp -implicitDefEqProofs only [go_sem, sQ1] at hks
  by_cases h2 : (k : Int) < (zs.length : Int)
  ·have h3 : k < zs.length := by omega
   repeat (first | rw [ko] | rw [kr] | simp -dsimp -implicitDefEqProofs only [go_sem, sQ1, hks, e5, h2])
   refine dq_intro [(0, []), (1, []), (2, []), (3, []), (4, []), (5, []), (6, []), (7, []), (8, []), (9, [])] (by kernel_rfl) ?_
   repeat (first | rw [ko] | rw [kr] | simp -dsimp -implicitDefEqProofs only [go_sem, sQ1, h3])
   refine pw_intro (eqPartS_pw (hf2 _ (getD_mem h3))) ?_
   rintro _ n2 hn2 rfl
   simp only [hn_up] at hn2
   repeat (first | rw [ko] | rw [kr] | simp -dsimp -implicitDefEqProofs only [go_sem, sQ1, wrap_succ h3 hf1])
   exact nx_keep (m - 1) (by omega) zsm ⟨k + 1, n2, up_up, by omega, zsm, by omega⟩
  ·repeat (first | rw [ko] | rw [kr] | simp -dsimp -implicitDefEqProofs only [go_sem, sQ1, hks, e5, h2])
   exact ⟨le_up (H2.le.refl _) hnn, ⟨_, rfl⟩, rfl⟩
theorem toPartSS_new {f : Adr} {zs : List (List LPart)} {h : H2} (hs : szPartSS zs ≤ 1048576) : NewT Tryz.prog W0 116 [.sl f 1 (rPartSS zs)] h (.l 1 (rPartSS zs)) := by
 unfold szPartSS at hs
 have hE : ∀ a, (ePartS a).length = 1 := fun a => rfl
 refine begins [[0], [0], [0, 3], [0, 3, 4], [0, 3, 4], [0, 3, 4], [3]] Tryz.func116 rfl (rs := [.tmp 2]) rfl rfl ?_
 intro wf
 repeat (first | rw [ko] | rw [kr] | simp -dsimp -implicitDefEqProofs only [go_sem])
 refine make_intro Ai.ty_el35 Ai.ty_zr156 (by decide) ⟨by omega, by simp only [Int.toNat_natCast]; have : Ai.most = 1099511627776 := rfl; omega⟩ ?_
 repeat (first | rw [ko] | rw [kr] | simp -dsimp -implicitDefEqProofs only [go_sem, sQ1])
 refine lz_keep [0, 3] (fun m e h' => ∃ (k : Nat) (cs : List X) (bs : List Nat), look e 4 .mk = .raw (.int .i64 k) ∧ m + k = zs.length ∧ hg h' (hn h .mk) .mk = some ⟨1, cs⟩ ∧ cs.length = zs.length * 1 ∧ OTs h' bs (cs.take (k * 1)) (((zs.take k).map ePartS).flatten) ∧ Bl (hn h .mk + 1) (hn h' .mk) bs ∧ h.le h' ∧ hn h .mk < hn h' .mk) zs.length ?_ ?_
 ·exact ⟨0, _, [], zsm, by omega, (by rw [hg_push, hoo]; rfl), by simp [rep_len], by simpa using OTs.nil, Bl.nil, le_push (H2.le.refl _), by rw [hn_push]; omega⟩
 ·rintro m e h' hks ⟨k, cs, bs, e4, hk, hrow, hcs, ho, hbl, hle, hlt⟩
  simp -dsimp -implicitDefEqProofs only [go_sem] at hks
  by_cases h2 : (k : Int) < (zs.length : Int)
  ·have h3 : k < zs.length := by omega
   have hsm : szPartS (zs.getD k default) ≤ sumN szPartS zs := sumN_mem (f := szPartS) (getD_mem h3)
   repeat (first | rw [ko] | rw [kr] | simp -dsimp -implicitDefEqProofs only [go_sem, sQ1, hks, e4, h2, h3])
   refine wz_intro (toPartS_new (by omega)) ?_
   rintro y g2 ⟨l2, b2, o1, bl2⟩
   have hy1 := OT.okx o1
   have o2 := OTs.one o1
   have nn2 := l2.1
   have hyl : ([y]).length = 1 := (OTs.len o2).trans (hE _)
   have hyo := OTs.okx o2
   obtain ⟨w1, w2, w3⟩ := wrt_next hcs h3 hyl
   have row2 := (l2.2 (hn h .mk) hlt).trans hrow
   have hi2 : (0 : Int) ≤ (k : Int) ∧ (k : Int) < (zs.length : Int) := by omega
   rw [Nat.mul_one] at w1
   repeat (first | rw [ko] | rw [kr] | simp -dsimp -implicitDefEqProofs only [go_sem, sQ1, row2, hi2, hyl, hyo, w1, hy1, wrap_succ h3 (by omega)])
   have hset : ∀ {b : Nat} {kk : OB}, b ≠ hn h .mk → (g2.set (hn h .mk) kk).get b = g2.get b := fun hb => by simp only [H2.set]; rw [if_neg hb]
   refine nx_keep (m - 1) (by omega) zsm ⟨k + 1, _, bs ++ b2, zsm, by omega, (by rw [hg_set, hoo]; rfl), (by rw [← Nat.mul_one k]; exact w2), ?_, ?_, le_set (hle.trans l2) (Nat.le_refl _), by simp -dsimp -implicitDefEqProofs only [go_sem] <;> omega⟩
   ·rw [show cs.take k = cs.take (k * 1) by rw [Nat.mul_one], show cs.drop (k + 1) = cs.drop (k * 1 + 1) by rw [Nat.mul_one]]; rw [w3, flat_next h3]
    refine OTs.append ((OTs.keep ho l2 hbl).frame fun b hb => hset (by have := (hbl.2 b hb).1; omega)) (o2.frame fun b hb => hset (by have := (bl2.2 b hb).1; omega))
   ·rw [hn_set]
    exact hbl.append bl2 (by omega) nn2
  ·repeat (first | rw [ko] | rw [kr] | simp -dsimp -implicitDefEqProofs only [go_sem, sQ1, hks, e4, h2])
   have : k = zs.length := by omega
   subst this
   obtain ⟨q1, q2⟩ := OT.full hE hrow hcs ho hbl hlt
   exact ⟨hle, _, q1, q2⟩
structure LCell where
 keys : List (List LPart)
 values : List (List LPart)
instance : Inhabited LCell := ⟨⟨default, default⟩⟩
def eCell (c : LCell) : List T := [.l 1 (rPartSS c.keys), .l 1 (rPartSS c.values)]
def xCell (F : Nat → Adr) (c : LCell) : List X := [.sl (F 0) 1 (rPartSS c.keys), .sl (F 1) 1 (rPartSS c.values)]
theorem eCell_def {c : LCell} : eCell c = [.l 1 (rPartSS c.keys), .l 1 (rPartSS c.values)] := rfl
theorem xCell_def {F : Nat → Adr} {c : LCell} : xCell F c = [.sl (F 0) 1 (rPartSS c.keys), .sl (F 1) 1 (rPartSS c.values)] := rfl
def szCell (c : LCell) : Nat := szPartSS c.keys + szPartSS c.values
def fitCell (c : LCell) : Prop := fitPartSS c.keys ∧ fitPartSS c.values
attribute [go_sem] eCell_def xCell_def
theorem invCell {g : H2} {bs : List Nat} {ys : List X} {c : LCell} (o : OTs g bs ys (eCell c)) : ∃ b0 s0 b1 s1, ys = [s0, s1] ∧ bs = b0 ++ b1 ∧ OT g b0 s0 (.l 1 (rPartSS c.keys)) ∧ OT g b1 s1 (.l 1 (rPartSS c.values)) := by
 unfold eCell at o
 obtain ⟨b0, bs0, s0, ys0, rfl, rfl, a0, o0⟩ := OTs.head o
 obtain ⟨b1, bs1, s1, ys1, rfl, rfl, a1, o1⟩ := OTs.head o0
 obtain ⟨rfl, rfl⟩ := OTs.tail0 o1
 exact ⟨_, _, _, _, rfl, by simp only [List.append_nil], a0, a1⟩
theorem outCell {g : H2} {c : LCell} {b0 b1 : List Nat} {s0 s1 : X} (a0 : OT g b0 s0 (.l 1 (rPartSS c.keys))) (a1 : OT g b1 s1 (.l 1 (rPartSS c.values))) : OTs g (b0 ++ b1) [s0, s1] (eCell c) := by
 have := OTs.cons a0 (OTs.cons a1 (OTs.nil))
 simpa only [eCell, List.append_nil, List.nil_append] using this
theorem szCell_ok {F : Nat → Adr} {c : LCell} {left : Int} {h : H2} (hf : fitCell c) (hl : 0 ≤ left ∧ left ≤ 1048576) : PW Tryz.prog W0 47 [.st (xCell F c), .raw (.int .i64 left)] h (fun y => ∃ k : Int, y = .raw (.int .i64 k) ∧ (0 ≤ k → (szCell c : Int) + k ≤ left)) := by
 unfold fitCell at hf
 refine PW.scalar ?_
 refine begins [[0, 1], [1, 2], [1, 2], [], [1, 2], [1], [], [1]] Tryz.func47 rfl (rs := [.tmp 4]) rfl rfl ?_
 intro wf
 repeat (first | rw [ko] | rw [kr] | simp -dsimp -implicitDefEqProofs only [go_sem, sQ1])
 refine pw_intro (szPartSS_pw  hf.1 ⟨by omega, by omega⟩) ?_
 rintro _ n0 hn0 ⟨k0, rfl, hk0⟩
 repeat (first | rw [ko] | rw [kr] | simp -dsimp -implicitDefEqProofs only [go_sem, sQ1])
 refine gz_dec (fun q0 => ?_) (fun q0 => ?_)
 ·repeat (first | rw [ko] | rw [kr] | simp -dsimp -implicitDefEqProofs only [go_sem])
  exact ⟨zale, ⟨_, rfl⟩, _, rfl, fun hh => by omega⟩
 repeat (first | rw [ko] | rw [kr] | simp -dsimp -implicitDefEqProofs only [go_sem, sQ1])
 refine pw_intro (szPartSS_pw  hf.2 ⟨by omega, by omega⟩) ?_
 rintro _ n1 hn1 ⟨k1, rfl, hk1⟩
 repeat (first | rw [ko] | rw [kr] | simp -dsimp -implicitDefEqProofs only [go_sem])
 refine gz_dec (fun q1 => ?_) (fun q1 => ?_)
 ·repeat (first | rw [ko] | rw [kr] | simp -dsimp -implicitDefEqProofs only [go_sem])
  exact ⟨zale, ⟨_, rfl⟩, _, rfl, fun hh => by omega⟩
 repeat (first | rw [ko] | rw [kr] | simp -dsimp -implicitDefEqProofs only [go_sem, sQ1])
 exact ⟨zale, ⟨_, rfl⟩, _, rfl, fun hh => by unfold szCell; omega⟩
theorem eqCell_ok {F F' : Nat → Adr} {c : LCell} {h : H2} (hf : fitCell c) : PW Tryz.prog W0 15 [.st (xCell F c), .st (xCell F' c)] h (fun y => y = .raw (.bool true)) := by
 unfold fitCell at hf
 refine PW.scalar ?_
 refine begins [[0, 1], [2, 3], [], [2, 3], [], []] Tryz.func15 rfl (rs := [.tmp 4]) rfl rfl ?_
 intro wf
 repeat (first | rw [ko] | rw [kr] | simp -dsimp -implicitDefEqProofs only [go_sem])
 refine pw_intro (eqPartSS_pw  hf.1) ?_
 rintro _ n0 hn0 rfl
 repeat (first | rw [ko] | rw [kr] | simp -dsimp -implicitDefEqProofs only [go_sem, sQ1])
 refine pw_intro (eqPartSS_pw  hf.2) ?_
 rintro _ n1 hn1 rfl
 repeat (first | rw [ko] | rw [kr] | simp -dsimp -implicitDefEqProofs only [go_sem])
 exact ⟨zale, ⟨_, rfl⟩, rfl⟩
theorem toCell_ok {F : Nat → Adr} {c : LCell} {h : H2} (hs : szCell c ≤ 1048576) : NewS Tryz.prog W0 58 [.st (xCell F c)] h (eCell c) := by
 unfold szCell at hs
 refine begins [[0], [1, 2], [1, 2, 3], [1, 2, 3], [2, 3]] Tryz.func58 rfl (rs := [.cell 2 37]) rfl rfl ?_
 intro wf
 repeat (first | rw [ko] | rw [kr] | simp -dsimp -implicitDefEqProofs only [go_sem])
 refine wz_intro (toPartSS_new  (by omega)) ?_
 rintro s0 g0 ⟨l0, b0, o0, bl0⟩
 have ce0 := OT.cell o0
 have n0 := l0.n
 have a00 := l0.2 (hn h .mk) (by simp only [hn_push]; omega)
 have a01 := l0.2 (hn h .mk + 1) (by simp only [hn_push]; omega)
 have a02 := l0.2 (hn h .mk + 1 + 1) (by simp only [hn_push]; omega)
 simp -dsimp -implicitDefEqProofs only [go_sem, hoo] at n0 a00 a01 a02
 have L0 : h.le g0 := H2.le.trans zale l0
 repeat (first | rw [ko] | rw [kr] | simp -dsimp -implicitDefEqProofs only [go_sem, sQ1, a00, a02, ce0])
 refine wz_intro (toPartSS_new  (by omega)) ?_
 rintro s1 g1 ⟨l1, b1, o1, bl1⟩
 have ce1 := OT.cell o1
 have n1 := l1.n
 have a10 := l1.2 (hn h .mk) (by simp only [hn_set]; omega)
 have a11 := l1.2 (hn h .mk + 1) (by simp only [hn_set]; omega)
 have a12 := l1.2 (hn h .mk + 1 + 1) (by simp only [hn_set]; omega)
 simp -dsimp -implicitDefEqProofs only [go_sem, a00, a01, hoo] at n1 a10 a11 a12
 have L1 : h.le g1 := H2.le.trans zale l1
 repeat (first | rw [ko] | rw [kr] | simp -dsimp -implicitDefEqProofs only [go_sem, sQ1, sQ2, a11, a12, ce0, ce1])
 refine ⟨zale, _, b0 ++ b1, rfl, outCell (c := c) ?_ ?_, ?_⟩
 ·refine OT.frame o0 fun b hb => ?_
  have hbl := bl0.2 b (hb)
  simp only [hn_push] at hbl
  simp only [H2.set]
  rw [if_neg (by omega), if_neg (by omega)]
  rw [show g1.get b = _ from l1.2 b (by simp only [hn_set]; omega)]
  simp only [hg, H2.set]
  rw [if_neg (by omega)]
 ·refine OT.frame o1 fun b hb => ?_
  have hbl := bl1.2 b (hb)
  simp only [hn_set] at hbl
  simp only [H2.set]
  rw [if_neg (by omega), if_neg (by omega)]
 ·simp only [hn_set]
  have m0 := bl0
  simp only [hn_push] at m0
  have m1 := bl1
  simp only [hn_set] at m1
  have := ((Bl.append m0 m1 (by omega) (by omega))).wide (N' := hn h .mk) (by omega) (Nat.le_refl _)
  simpa only [List.append_assoc] using this
def rCellS (zs : List LCell) : List (List T) := zs.map eCell
theorem rCellS_len {zs : List LCell} : (rCellS zs).length = zs.length := by simp [rCellS]
theorem rCellS_el {zs : List LCell} {i : Nat} (hi : i < zs.length) : el (rCellS zs) i = eCell (zs.getD i default) := el_map hi
attribute [go_sem] rCellS_len rCellS_el
def szCellS (zs : List LCell) : Nat := zs.length + sumN szCell zs
def fitCellS (zs : List LCell) : Prop := zs.length ≤ 9223372036854775807 ∧ ∀ x ∈ zs, fitCell x
theorem szCellS_pw {f : Adr} {zs : List LCell} {left : Int} {h : H2} (hf : fitCellS zs) (hl : 0 ≤ left ∧ left ≤ 1048576) : PW Tryz.prog W0 10 [.sl f 2 (rCellS zs), .raw (.int .i64 left)] h (fun y => ∃ k : Int, y = .raw (.int .i64 k) ∧ (0 ≤ k → (szCellS zs : Int) + k ≤ left)) := by
 obtain ⟨hf1, hf2⟩ := hf
 unfold szCellS
 have hw : IntKind.i64.wrap (left - zs.length) = left - zs.length := by rw [wrap_i64] <;> omega
 refine PW.scalar ?_
 refine begins [[0, 1], [0, 1], [0, 1], [], [0, 1], [0, 1, 5], [0, 1, 5], [0, 1, 5], [0, 1, 5], [], [1]] Tryz.func10 rfl (rs := [.tmp 4]) rfl rfl ?_
 intro wf
 repeat (first | rw [ko] | rw [kr] | simp -dsimp -implicitDefEqProofs only [go_sem, sQ1, hw])
 refine gz_dec (fun h1 => ?_) (fun h1 => ?_)
 ·repeat (first | rw [ko] | rw [kr] | simp -dsimp -implicitDefEqProofs only [go_sem])
  exact ⟨H2.le.refl _, ⟨_, rfl⟩, _, rfl, fun hh => by omega⟩
 ·repeat (first | rw [ko] | rw [kr] | simp -dsimp -implicitDefEqProofs only [go_sem, sQ1])
  refine lz_keep [0] (fun m e h' => ∃ (k n : Nat) (x : Int), h' = h.up n ∧ hn h .mk ≤ n ∧ look e 5 .mk = .raw (.int .i64 k) ∧ look e 1 .mk = .raw (.int .i64 x) ∧ 0 ≤ x ∧ (zs.length : Int) + sumN szCell (zs.take k) + x ≤ left ∧ m + k = zs.length) zs.length ?_ ?_
  ·exact ⟨0, hn h .mk, left - zs.length, up_self, Nat.le_refl _, zsm, zsm, by omega, by simp [sumN]; omega, by omega⟩
  ·rintro m e h' hks ⟨k, n, x, rfl, hnn, e5, e1, hx, hsum, hk⟩
   simp -dsimp -implicitDefEqProofs only [go_sem, sQ1] at hks
   by_cases h2 : (k : Int) < (zs.length : Int)
   ·have h3 : k < zs.length := by omega
    have hst : sumN szCell (zs.take (k + 1)) = sumN szCell (zs.take k) + szCell (zs.getD k default) := sumN_take (f := szCell) h3
    repeat (first | rw [ko] | rw [kr] | simp -dsimp -implicitDefEqProofs only [go_sem, sQ1, sQ2, sQ3, hks, e5, e1, h2, h3])
    refine pw_intro (szCell_ok (F := under (under f k)) (c := zs.getD k default) (hf2 _ (getD_mem h3)) ⟨by omega, by omega⟩) ?_
    rintro _ n2 hn2 ⟨x2, rfl, hx2⟩
    simp only [hn_up] at hn2
    repeat (first | rw [ko] | rw [kr] | simp -dsimp -implicitDefEqProofs only [go_sem, sQ1])
    refine gz_dec (fun h4 => ?_) (fun h4 => ?_)
    ·repeat (first | rw [ko] | rw [kr] | simp -dsimp -implicitDefEqProofs only [go_sem])
     exact ⟨(by first | exact le_up (H2.le.refl _) (by omega) | exact le_up (le_up (H2.le.refl _) hnn) (by rw [hn_up]; omega)), ⟨_, rfl⟩, _, rfl, fun hh => by omega⟩
    ·repeat (first | rw [ko] | rw [kr] | simp -dsimp -implicitDefEqProofs only [go_sem, sQ1, wrap_succ h3 hf1])
     exact nx_keep (m - 1) (by omega) zsm ⟨k + 1, n2, x2, up_up, by omega, zsm, zsm, by omega, by have := hx2 (by omega); omega, by omega⟩
   ·repeat (first | rw [ko] | rw [kr] | simp -dsimp -implicitDefEqProofs only [go_sem, sQ1, hks, e5, e1, h2])
    refine ⟨le_up (H2.le.refl _) hnn, ⟨_, rfl⟩, x, rfl, fun _ => ?_⟩
    rw [List.take_of_length_le (by omega)] at hsum
    omega
theorem eqCellS_pw {f f' : Adr} {zs : List LCell} {h : H2} (hf : fitCellS zs) : PW Tryz.prog W0 18 [.sl f 2 (rCellS zs), .sl f' 2 (rCellS zs)] h (fun y => y = .raw (.bool true)) := by
 obtain ⟨hf1, hf2⟩ := hf
 refine PW.scalar ?_
 refine begins [[0, 1], [0, 1], [], [0, 1], [0, 1, 5], [0, 1, 5], [0, 1, 5], [], []] Tryz.func18 rfl (rs := [.tmp 4]) rfl rfl ?_
 intro wf
 repeat (first | rw [ko] | rw [kr] | simp -dsimp -implicitDefEqProofs only [go_sem, sQ1])
 refine lz_keep [0, 1] (fun m e h' => ∃ (k n : Nat), h' = h.up n ∧ hn h .mk ≤ n ∧ look e 5 .mk = .raw (.int .i64 k) ∧ m + k = zs.length) zs.length ?_ ?_
 ·exact ⟨0, hn h .mk, up_self, Nat.le_refl _, zsm, by omega⟩
 ·rintro m e h' hks ⟨k, n, rfl, hnn, e5, hk⟩
  simp -dsimp -implicitDefEqProofs only [go_sem, sQ1] at hks
  by_cases h2 : (k : Int) < (zs.length : Int)
  ·have h3 : k < zs.length := by omega
   repeat (first | rw [ko] | rw [kr] | simp -dsimp -implicitDefEqProofs only [go_sem, sQ1, hks, e5, h2])
   refine dq_intro [(0, []), (1, []), (2, []), (3, []), (4, []), (5, []), (6, []), (7, []), (8, []), (9, [])] (by kernel_rfl) ?_
   repeat (first | rw [ko] | rw [kr] | simp -dsimp -implicitDefEqProofs only [go_sem, sQ1, sQ2, sQ3, h3])
   refine pw_intro (eqCell_ok (F := under (under f k)) (F' := under (under f' k)) (c := zs.getD k default) (hf2 _ (getD_mem h3))) ?_
   rintro _ n2 hn2 rfl
   simp only [hn_up] at hn2
   repeat (first | rw [ko] | rw [kr] | simp -dsimp -implicitDefEqProofs only [go_sem, sQ1, wrap_succ h3 hf1])
   exact nx_keep (m - 1) (by omega) zsm ⟨k + 1, n2, up_up, by omega, zsm, by omega⟩
  ·repeat (first | rw [ko] | rw [kr] | simp -dsimp -implicitDefEqProofs only [go_sem, sQ1, hks, e5, h2])
   exact ⟨le_up (H2.le.refl _) hnn, ⟨_, rfl⟩, rfl⟩
theorem toCellS_new {f : Adr} {zs : List LCell} {h : H2} (hs : szCellS zs ≤ 1048576) : NewT Tryz.prog W0 13 [.sl f 2 (rCellS zs)] h (.l 2 (rCellS zs)) := by
 unfold szCellS at hs
 have hE : ∀ a, (eCell a).length = 2 := fun a => rfl
 refine begins [[0], [0], [0, 3], [0, 3, 4], [0, 3, 4], [0, 3, 4], [3]] Tryz.func13 rfl (rs := [.tmp 2]) rfl rfl ?_
 intro wf
 repeat (first | rw [ko] | rw [kr] | simp -dsimp -implicitDefEqProofs only [go_sem])
 refine make_intro Ai.ty_el47 Ai.ty_zr37 (by decide) ⟨by omega, by simp only [Int.toNat_natCast]; have : Ai.most = 1099511627776 := rfl; omega⟩ ?_
 repeat (first | rw [ko] | rw [kr] | simp -dsimp -implicitDefEqProofs only [go_sem, sQ1])
 refine lz_keep [0, 3] (fun m e h' => ∃ (k : Nat) (cs : List X) (bs : List Nat), look e 4 .mk = .raw (.int .i64 k) ∧ m + k = zs.length ∧ hg h' (hn h .mk) .mk = some ⟨2, cs⟩ ∧ cs.length = zs.length * 2 ∧ OTs h' bs (cs.take (k * 2)) (((zs.take k).map eCell).flatten) ∧ Bl (hn h .mk + 1) (hn h' .mk) bs ∧ h.le h' ∧ hn h .mk < hn h' .mk) zs.length ?_ ?_
 ·exact ⟨0, _, [], zsm, by omega, (by rw [hg_push, hoo]; rfl), by simp [rep_len], by simpa using OTs.nil, Bl.nil, le_push (H2.le.refl _), by rw [hn_push]; omega⟩
 ·rintro m e h' hks ⟨k, cs, bs, e4, hk, hrow, hcs, ho, hbl, hle, hlt⟩
  simp -dsimp -implicitDefEqProofs only [go_sem] at hks
  by_cases h2 : (k : Int) < (zs.length : Int)
  ·have h3 : k < zs.length := by omega
   have hsm : szCell (zs.getD k default) ≤ sumN szCell zs := sumN_mem (f := szCell) (getD_mem h3)
   repeat (first | rw [ko] | rw [kr] | simp -dsimp -implicitDefEqProofs only [go_sem, sQ1, sQ2, sQ3, hks, e4, h2, h3])
   refine wz_intro (toCell_ok (F := under (under f k)) (c := zs.getD k default) (by omega)) ?_
   rintro _ g2 ⟨l2, ys, b2, rfl, o2, bl2⟩
   have nn2 := l2.1
   have hyl : (ys).length = 2 := (OTs.len o2).trans (hE _)
   have hyo := OTs.okx o2
   obtain ⟨w1, w2, w3⟩ := wrt_next hcs h3 hyl
   have row2 := (l2.2 (hn h .mk) hlt).trans hrow
   have hi2 : (0 : Int) ≤ (k : Int) ∧ (k : Int) < (zs.length : Int) := by omega
   repeat (first | rw [ko] | rw [kr] | simp -dsimp -implicitDefEqProofs only [go_sem, sQ1, row2, hi2, hyl, hyo, w1, wrap_succ h3 (by omega)])
   have hset : ∀ {b : Nat} {kk : OB}, b ≠ hn h .mk → (g2.set (hn h .mk) kk).get b = g2.get b := fun hb => by simp only [H2.set]; rw [if_neg hb]
   refine nx_keep (m - 1) (by omega) zsm ⟨k + 1, _, bs ++ b2, zsm, by omega, (by rw [hg_set, hoo]; rfl), w2, ?_, ?_, le_set (hle.trans l2) (Nat.le_refl _), by simp -dsimp -implicitDefEqProofs only [go_sem] <;> omega⟩
   ·rw [w3, flat_next h3]
    refine OTs.append ((OTs.keep ho l2 hbl).frame fun b hb => hset (by have := (hbl.2 b hb).1; omega)) (o2.frame fun b hb => hset (by have := (bl2.2 b hb).1; omega))
   ·rw [hn_set]
    exact hbl.append bl2 (by omega) nn2
  ·repeat (first | rw [ko] | rw [kr] | simp -dsimp -implicitDefEqProofs only [go_sem, sQ1, hks, e4, h2])
   have : k = zs.length := by omega
   subst this
   obtain ⟨q1, q2⟩ := OT.full hE hrow hcs ho hbl hlt
   exact ⟨hle, _, q1, q2⟩
structure LStore where
 refs : List Int
 pages : List (List LCell)
instance : Inhabited LStore := ⟨⟨default, default⟩⟩
end Go.Bi
end
section
set_option maxRecDepth 20000
namespace Go.Bi
open Go.Proofs
open Go.Ai (wrap_i64 Heap)
variable {W0 : World} {P : Program}
set_option maxHeartbeats 4000000
def partB (p : LPart) : Bool := inI p.shift 0 4 && (inI p.values.length 1 8 && allI p.values (-15) 15)
theorem append_i3 {D : Nat → Option (List Nat)} {g : H2} {K : KT} {t u U y N : Nat} {xs : List Int} {x : X} {f : Adr} {s : Int} (he : Go.Ai.elt? P t = some (U, 1, y)) (hz : Go.Ai.zr? P U = some [.int .i64 0]) (hu : Go.Ai.cls? P u = some .sl)
  (hx : OwnI N g x xs) (hN0 : N ≤ hn g .mk) (hn0 : (xs.length + 1) * (y + 1) ≤ Go.Ai.most)
  (hk : ∀ v' g', OwnI N g' v' (xs ++ [s]) → hn g .mk ≤ hn g' .mk → (∀ g0 : H2, hn g0 .mk ≤ N → g0.le g → g0.le g') → (∀ c, c < hn g .mk → blockOf x ≠ some c → hg g' c .mk = hg g c .mk) → kz K v' g' .mk) :
  az (biz P g .append [t, u] [x, .sl f 1 [[.v (.int .i64 s)]]] .mk) K .mk := by
 refine append_own (z := 0) (m := 1) (news := [cI s]) (N := N) he hz rfl hu hx hN0 rfl rfl rfl hn0 ?_
 intro v' g' o
 refine hk v' g' ?_
 unfold OwnI
 rw [List.map_append, List.length_append]
 exact o
theorem clampA_ok {x : Int} {g : H2} : WC2 Tryz.prog W0 190 [.raw (.int .i64 x), .raw (.int .i64 127)] g (fun v g' => (∃ r, v = .raw (.int .i64 r)) ∧ g' = g) := by
 refine begins [[0, 1], [0, 1], [], [0, 1]] Tryz.func190 rfl (rs := [.tmp 4]) rfl rfl ?_
 intro wf
 have h0 : ¬ ((127 : Int) < 0) := by decide
 repeat (first | rw [ko] | rw [kr] | simp -dsimp -implicitDefEqProofs only [go_sem, sQ1, h0])
 exact ⟨⟨_, rfl⟩, rfl⟩
theorem implPut_ok {F : Nat → Adr} {p : LPart} {g : H2} (hs : p.values.length ≤ 1048576) : WC2 Tryz.prog W0 236 [.st (xPart F p)] g (fun x g' => g.le g' ∧ ∃ v, x = .tp [v, .raw (.bool (partB p))] ∧ isTpX v = false) := by
 refine begins [[0], [1], [], [1], [1, 4], [1, 4, 26, 27, 28], [1, 4, 26, 27, 28], [1, 4, 6, 26, 27, 28], [1, 4, 26, 27, 28], [4]] Tryz.func236 rfl (rs := [.tmp 2, .tmp 3]) rfl rfl ?_
 intro wf
 repeat (first | rw [ko] | rw [kr] | simp -dsimp -implicitDefEqProofs only [go_sem, hoo])
 refine wz_intro in_ok ?_
 rintro _ _ ⟨rfl, rfl⟩
 cases h1 : inI p.shift 0 4
 ·repeat (first | rw [ko] | rw [kr] | simp -dsimp -implicitDefEqProofs only [go_sem, sQ1, hoo])
  exact ⟨le_push (H2.le.refl _), _, by rw [partB, h1]; rfl, rfl⟩
 repeat (first | rw [ko] | rw [kr] | simp -dsimp -implicitDefEqProofs only [go_sem, sQ1, hoo])
 refine wz_intro in_ok ?_
 rintro _ _ ⟨rfl, rfl⟩
 cases h2 : inI p.values.length 1 8
 ·repeat (first | rw [ko] | rw [kr] | simp -dsimp -implicitDefEqProofs only [go_sem, sQ1, hoo])
  exact ⟨le_push (H2.le.refl _), _, by rw [partB, h1, h2]; rfl, rfl⟩
 repeat (first | rw [ko] | rw [kr] | simp -dsimp -implicitDefEqProofs only [go_sem, sQ1, hoo])
 refine pw_intro (allIn_ok (by omega)) ?_
 rintro _ n1 hn1 rfl
 rw [hn_push] at hn1
 have L1 : ∀ k : OB, g.le ((g.push k).up n1) := fun k => le_up (le_push (H2.le.refl _)) (by rw [hn_push]; exact hn1)
 cases h3 : allI p.values (-15) 15
 ·repeat (first | rw [ko] | rw [kr] | simp -dsimp -implicitDefEqProofs only [go_sem, hoo])
  exact ⟨L1 _, _, by rw [partB, h1, h2, h3]; rfl, rfl⟩
 have hne : (hn g .mk == n1) = false := zne
 repeat (first | rw [ko] | rw [kr] | simp -dsimp -implicitDefEqProofs only [go_sem, sQ1, sQ3, hoo, hne])
 have hB : partB p = true := by rw [partB, h1, h2, h3]; rfl
 have hsh := inI_tt h1
 refine lz_keep [1, 26, 27] (fun m e h' => ∃ (i : Nat) (zs : List Int) (v : X), look e 28 .mk = .raw (.int .i64 (i : Nat)) ∧ look e 4 .mk = v ∧ m + i = p.values.length ∧ zs.length = i ∧ OwnI n1 h' v zs ∧ g.le h' ∧ n1 ≤ hn h' .mk ∧ hg h' (hn g .mk) .mk = some ⟨2, [.raw (.int .i64 p.shift), .sl (F 1) 1 (ints p.values)]⟩) p.values.length ?_ ?_
 ·refine ⟨0, [], _, zsm, by simp -dsimp -implicitDefEqProofs only [go_sem, sQ1] <;> rfl, by omega, rfl, Own.new (by rw [hn_up]; exact Nat.le_refl _) rfl, le_push (L1 _), by simp only [hn_push, hn_up]; omega, ?_⟩
  simp -dsimp -implicitDefEqProofs only [go_sem, hne, hoo]
 rintro m e h' hks ⟨i, zs, v, e28, e4, hm, hz, ow, hle, hn0, row⟩
 simp -dsimp -implicitDefEqProofs only [go_sem, sQ1] at hks
 by_cases q1 : (i : Int) < (p.values.length : Int)
 ·have q2 : i < p.values.length := by omega
  have w1 := zwrs i (by omega)
  have hsh0 := hsh.1
  repeat (first | rw [ko] | rw [kr] | simp -dsimp -implicitDefEqProofs only [go_sem, sQ1, hks, e28, e4, q1, q2, row, hsh0])
  refine wz_intro clampA_ok ?_
  rintro _ _ ⟨⟨r, rfl⟩, rfl⟩
  repeat (first | rw [ko] | rw [kr] | simp -dsimp -implicitDefEqProofs only [go_sem, sQ1, sQ3])
  have h8 := inI_tt h2
  refine append_i3 (P := Tryz.prog) (D := fun _ => none) (N := n1) Go.Ai.ty_el25 Go.Ai.ty_zr3 Go.Ai.ty_cl25 (Own.keep ow (le_up (H2.le.refl _) (Nat.le_succ _))) (by rw [hn_up]; omega) (by have : Go.Ai.most = 1099511627776 := rfl; omega) ?_
  intro v4 g4 ow4 nn4 le4 on4
  rw [hn_up] at nn4
  have row4 : hg g4 (hn g .mk) .mk = _ := (on4 (hn g .mk) (by rw [hn_up]; omega) (fun e => by
   obtain ⟨_, h⟩ := ow
   rcases h with ⟨rfl, _⟩ | ⟨q, rfl, a1, _⟩
   ·cases e
   ·simp only [blockOf, Option.some.injEq] at e; omega)).trans row
  repeat (first | rw [ko] | rw [kr] | simp -dsimp -implicitDefEqProofs only [go_sem, sQ1, w1])
  exact nx_keep (m - 1) (by omega) zsm ⟨i + 1, _, v4, zsm, zsm, by omega, by simp [hz], ow4, le4 g (by omega) (le_up hle (Nat.le_succ _)), by omega, row4⟩
 ·have c0 := ownI_cell ow
  have c1 := c0.2.2
  repeat (first | rw [ko] | rw [kr] | simp -dsimp -implicitDefEqProofs only [go_sem, sQ1, hks, e28, e4, q1, c1])
  exact ⟨hle, _, by rw [hB], c1⟩
theorem implPart_ok {F : Nat → Adr} {p : LPart} {n : Int} {g : H2} (hs : p.values.length ≤ 1048576) : PW Tryz.prog W0 220 [.st (xPart F p), .raw (.int .i64 n)] g (fun y => y = .raw (.bool (partB p && decide ((p.values.length : Int) = n)))) := by
 refine PW.scalar ?_
 refine begins [[0, 1], [1, 2], [1, 2, 6]] Tryz.func220 rfl (rs := [.tmp 4]) rfl rfl ?_
 intro wf
 repeat (first | rw [ko] | rw [kr] | simp -dsimp -implicitDefEqProofs only [go_sem, hoo])
 refine wz_intro (implPut_ok (F := F) hs) ?_
 rintro _ g1 ⟨l1, v, rfl, c1⟩
 have row : hg g1 (hn g .mk) .mk = some ⟨2, [.raw (.int .i64 p.shift), .sl (F 1) 1 (ints p.values)]⟩ := (l1.2 (hn g .mk) (by rw [hn_push]; omega)).trans (by simp -dsimp -implicitDefEqProofs only [go_sem, hoo])
 have L1 : g.le g1 := H2.le.trans (le_push (H2.le.refl _)) l1
 cases h1 : partB p
 ·repeat (first | rw [ko] | rw [kr] | simp -dsimp -implicitDefEqProofs only [go_sem, sQ1])
  exact ⟨L1, ⟨_, rfl⟩, rfl⟩
 ·repeat (first | rw [ko] | rw [kr] | simp -dsimp -implicitDefEqProofs only [go_sem, sQ1, row])
  exact ⟨L1, ⟨_, rfl⟩, rfl⟩
end Go.Bi
end
section
set_option maxRecDepth 20000
namespace Go.Bi
open Go.Proofs
open Go.Ai (wrap_i64 Heap)
variable {W0 : World} {P : Program}
set_option maxHeartbeats 4000000
theorem powA_ok {n : Nat} {g : H2} (hn0 : n ≤ 1048576) : WC2 Tryz.prog W0 234 [.raw (.int .i64 n)] g (fun v g' => (∃ r, v = .raw (.int .i64 r)) ∧ g' = g) := by
 refine begins [[0], [0], [0, 3], [0, 3, 4], [0, 3, 4], [0, 3, 4], [3]] Tryz.func234 rfl (rs := [.tmp 2]) rfl rfl ?_
 intro wf
 repeat (first | rw [ko] | rw [kr] | simp -dsimp -implicitDefEqProofs only [go_sem])
 refine lz_keep [0] (fun m e h' => ∃ (i : Nat) (x : Int), h' = g ∧ look e 4 .mk = .raw (.int .i64 (i : Nat)) ∧ look e 3 .mk = .raw (.int .i64 x) ∧ m + i = n) n ?_ ?_
 ·exact ⟨0, _, rfl, zsm, by simp -dsimp -implicitDefEqProofs only [go_sem] <;> rfl, by omega⟩
 rintro m e h' hks ⟨i, x, rfl, e4, e3, hm⟩
 simp -dsimp -implicitDefEqProofs only [go_sem] at hks
 by_cases q1 : (i : Int) < (n : Int)
 ·have w1 := zwrs i (by omega)
  repeat (first | rw [ko] | rw [kr] | simp -dsimp -implicitDefEqProofs only [go_sem, sQ1, hks, e4, e3, q1, w1])
  exact nx_keep (m - 1) (by omega) zsm ⟨i + 1, _, rfl, zsm, by simp -dsimp -implicitDefEqProofs only [go_sem, sQ1] <;> rfl, by omega⟩
 ·repeat (first | rw [ko] | rw [kr] | simp -dsimp -implicitDefEqProofs only [go_sem, sQ1, hks, e4, e3, q1])
  exact ⟨⟨_, rfl⟩, rfl⟩
theorem powB_ok {s : Int} {g : H2} (h0 : 0 ≤ s) (h1 : s ≤ 1048576) : WC2 Tryz.prog W0 234 [.raw (.int .i64 s)] g (fun v g' => (∃ r, v = .raw (.int .i64 r)) ∧ g' = g) := by
 obtain ⟨n, rfl⟩ := Int.eq_ofNat_of_zero_le h0
 exact powA_ok (by omega)
theorem clampB_ok {x : Int} {g : H2} : WC2 Tryz.prog W0 167 [.raw (.int .i64 x), .raw (.int .i64 127)] g (fun v g' => (∃ r, v = .raw (.int .i64 r)) ∧ g' = g) := by
 refine begins [[0, 1], [0, 1], [1], [0, 1], [1], [0]] Tryz.func167 rfl (rs := [.tmp 4]) rfl rfl ?_
 intro wf
 repeat (first | rw [ko] | rw [kr] | simp -dsimp -implicitDefEqProofs only [go_sem])
 refine gz_dec (fun h1 => ?_) (fun h1 => ?_)
 ·repeat (first | rw [ko] | rw [kr] | simp -dsimp -implicitDefEqProofs only [go_sem, sQ1])
  exact ⟨⟨_, rfl⟩, rfl⟩
 repeat (first | rw [ko] | rw [kr] | simp -dsimp -implicitDefEqProofs only [go_sem, sQ1])
 refine gz_dec (fun h2 => ?_) (fun h2 => ?_)
 ·repeat (first | rw [ko] | rw [kr] | simp -dsimp -implicitDefEqProofs only [go_sem, sQ1])
  exact ⟨⟨_, rfl⟩, rfl⟩
 ·repeat (first | rw [ko] | rw [kr] | simp -dsimp -implicitDefEqProofs only [go_sem, sQ1])
  exact ⟨⟨_, rfl⟩, rfl⟩
theorem specPut_ok {F : Nat → Adr} {p : LPart} {g : H2} (hs : p.values.length ≤ 1048576) : WC2 Tryz.prog W0 207 [.st (xPart F p)] g (fun x g' => g.le g' ∧ ∃ v, x = .tp [v, .raw (.bool (partB p))] ∧ isTpX v = false) := by
 refine begins [[0], [1], [1, 4], [4], [1, 4], [1, 4, 5], [1, 4, 5], [1, 4, 5], [4]] Tryz.func207 rfl (rs := [.tmp 2, .tmp 3]) rfl rfl ?_
 intro wf
 have hne : (hn g .mk == hn g .mk + 1) = false := by simp
 repeat (first | rw [ko] | rw [kr] | simp -dsimp -implicitDefEqProofs only [go_sem, sQ1, sQ3, hoo, hne])
 refine wz_intro l01In_ok ?_
 rintro _ _ ⟨rfl, rfl⟩
 have L0 : ∀ k k' : OB, g.le ((g.push k).push k') := fun k k' => le_push (le_push (H2.le.refl _))
 cases h1 : inI p.shift 0 4
 ·repeat (first | rw [ko] | rw [kr] | simp -dsimp -implicitDefEqProofs only [go_sem, sQ1, hoo])
  exact ⟨L0 _ _, _, by rw [partB, h1]; rfl, rfl⟩
 repeat (first | rw [ko] | rw [kr] | simp -dsimp -implicitDefEqProofs only [go_sem, sQ1, hoo, hne])
 refine wz_intro l01In_ok ?_
 rintro _ _ ⟨rfl, rfl⟩
 cases h2 : inI p.values.length 1 8
 ·repeat (first | rw [ko] | rw [kr] | simp -dsimp -implicitDefEqProofs only [go_sem, sQ1, hoo])
  exact ⟨L0 _ _, _, by rw [partB, h1, h2]; rfl, rfl⟩
 repeat (first | rw [ko] | rw [kr] | simp -dsimp -implicitDefEqProofs only [go_sem, sQ1, hoo, hne])
 refine pw_intro (l05All_ok (by omega)) ?_
 rintro _ n1 hn1 rfl
 simp only [hn_push] at hn1
 have L1 : ∀ k k' : OB, g.le (((g.push k).push k').up n1) := fun k k' => le_up (L0 k k') (by simp only [hn_push]; exact hn1)
 cases h3 : allI p.values (-15) 15
 ·repeat (first | rw [ko] | rw [kr] | simp -dsimp -implicitDefEqProofs only [go_sem, sQ1, hoo])
  exact ⟨L1 _ _, _, by rw [partB, h1, h2, h3]; rfl, rfl⟩
 repeat (first | rw [ko] | rw [kr] | simp -dsimp -implicitDefEqProofs only [go_sem, sQ1, hoo])
 have hB : partB p = true := by rw [partB, h1, h2, h3]; rfl
 have hsh := inI_tt h1
 have h8 := inI_tt h2
 refine lz_keep [1] (fun m e h' => ∃ (i : Nat) (zs : List Int) (v : X), look e 5 .mk = .raw (.int .i64 (i : Nat)) ∧ look e 4 .mk = v ∧ m + i = p.values.length ∧ zs.length = i ∧ OwnI (hn g .mk + 1) h' v zs ∧ g.le h' ∧ hn g .mk + 1 ≤ hn h' .mk ∧ hg h' (hn g .mk) .mk = some ⟨2, [.raw (.int .i64 p.shift), .sl (F 1) 1 (ints p.values)]⟩) p.values.length ?_ ?_
 ·refine ⟨0, [], _, zsm, by simp -dsimp -implicitDefEqProofs only [go_sem] <;> rfl, by omega, rfl, ?_, L1 _ _, by simp only [hn_up]; omega, by simp -dsimp -implicitDefEqProofs only [go_sem, hne, hoo]⟩
  exact Own.keep (Own.new (g := g.push _) (by rw [hn_push]; exact Nat.le_refl _) rfl) (le_up (H2.le.refl _) (by simp only [hn_push]; omega))
 rintro m e h' hks ⟨i, zs, v, e5, e4, hm, hz, ow, hle, hn0, row⟩
 simp -dsimp -implicitDefEqProofs only [go_sem] at hks
 by_cases q1 : (i : Int) < (p.values.length : Int)
 ·have q2 : i < p.values.length := by omega
  have w1 := zwrs i (by omega)
  repeat (first | rw [ko] | rw [kr] | simp -dsimp -implicitDefEqProofs only [go_sem, sQ1, hks, e5, e4, q1, row])
  refine dq_intro [(0, []), (1, []), (2, []), (3, []), (4, []), (5, []), (6, []), (7, []), (8, [2, 5]), (9, []), (10, []), (11, []), (12, []), (13, [])] (by kernel_rfl) ?_
  repeat (first | rw [ko] | rw [kr] | simp -dsimp -implicitDefEqProofs only [go_sem, sQ1, q2, row])
  refine wz_intro (powB_ok hsh.1 (by omega)) ?_
  rintro _ _ ⟨⟨r, rfl⟩, rfl⟩
  repeat (first | rw [ko] | rw [kr] | simp -dsimp -implicitDefEqProofs only [go_sem, sQ1, row])
  refine wz_intro clampB_ok ?_
  rintro _ _ ⟨⟨r2, rfl⟩, rfl⟩
  repeat (first | rw [ko] | rw [kr] | simp -dsimp -implicitDefEqProofs only [go_sem, sQ1, sQ3])
  refine append_i3 (P := Tryz.prog) (D := fun _ => none) (N := hn g .mk + 1) Go.Ai.ty_el25 Go.Ai.ty_zr3 Go.Ai.ty_cl25 (Own.keep ow (le_up (H2.le.refl _) (Nat.le_succ _))) (by rw [hn_up]; omega) (by have : Go.Ai.most = 1099511627776 := rfl; omega) ?_
  intro v4 g4 ow4 nn4 le4 on4
  rw [hn_up] at nn4
  have row4 : hg g4 (hn g .mk) .mk = _ := (on4 (hn g .mk) (by rw [hn_up]; omega) (fun e => by
   obtain ⟨_, h⟩ := ow
   rcases h with ⟨rfl, _⟩ | ⟨q, rfl, a1, _⟩
   ·cases e
   ·simp only [blockOf, Option.some.injEq] at e; omega)).trans row
  repeat (first | rw [ko] | rw [kr] | simp -dsimp -implicitDefEqProofs only [go_sem, sQ1, w1])
  exact nx_keep (m - 1) (by omega) zsm ⟨i + 1, _, v4, zsm, zsm, by omega, by simp [hz], ow4, le4 g (by omega) (le_up hle (Nat.le_succ _)), by omega, row4⟩
 ·have c0 := ownI_cell ow
  have c1 := c0.2.2
  repeat (first | rw [ko] | rw [kr] | simp -dsimp -implicitDefEqProofs only [go_sem, sQ1, hks, e5, e4, q1, row, c1])
  exact ⟨hle, _, by rw [hB], c1⟩
theorem specPart_ok {F : Nat → Adr} {p : LPart} {n : Int} {g : H2} (hs : p.values.length ≤ 1048576) : PW Tryz.prog W0 203 [.st (xPart F p), .raw (.int .i64 n)] g (fun y => y = .raw (.bool (partB p && decide ((p.values.length : Int) = n)))) := by
 refine PW.scalar ?_
 refine begins [[0, 1], [1, 2], [1, 2, 6]] Tryz.func203 rfl (rs := [.tmp 4]) rfl rfl ?_
 intro wf
 repeat (first | rw [ko] | rw [kr] | simp -dsimp -implicitDefEqProofs only [go_sem, hoo])
 refine wz_intro (specPut_ok (F := F) hs) ?_
 rintro _ g1 ⟨l1, v, rfl, c1⟩
 have row : hg g1 (hn g .mk) .mk = some ⟨2, [.raw (.int .i64 p.shift), .sl (F 1) 1 (ints p.values)]⟩ := (l1.2 (hn g .mk) (by rw [hn_push]; omega)).trans (by simp -dsimp -implicitDefEqProofs only [go_sem, hoo])
 have L1 : g.le g1 := H2.le.trans (le_push (H2.le.refl _)) l1
 cases h1 : partB p
 ·repeat (first | rw [ko] | rw [kr] | simp -dsimp -implicitDefEqProofs only [go_sem, sQ1])
  exact ⟨L1, ⟨_, rfl⟩, rfl⟩
 ·repeat (first | rw [ko] | rw [kr] | simp -dsimp -implicitDefEqProofs only [go_sem, sQ1, row])
  exact ⟨L1, ⟨_, rfl⟩, rfl⟩
end Go.Bi
end
section
set_option maxRecDepth 20000
namespace Go.Bi
open Go.Proofs
open Go.Ai (wrap_i64 Heap)
variable {W0 : World} {P : Program}
set_option maxHeartbeats 4000000
def partN (n : Int) (p : LPart) : Bool := partB p && decide ((p.values.length : Int) = n)
def partsB (l : List LPart) (k n : Int) : Bool := decide ((l.length : Int) = k) && !(l.any fun p => !partN n p)
def layersB (l : List (List LPart)) (m : LModel) : Bool := decide ((l.length : Int) = m.layers.length) && !(l.any fun x => !partsB x m.heads (Int.tdiv m.dim m.heads))
def cellB (c : LCell) (m : LModel) : Bool := layersB c.keys m && layersB c.values m
def smallP (l : List LPart) : Prop := l.length ≤ 1048576 ∧ ∀ i, i < l.length → (l.getD i default).values.length ≤ 1048576
def smallPP (l : List (List LPart)) : Prop := l.length ≤ 1048576 ∧ ∀ i, i < l.length → smallP (l.getD i default)
theorem indexP_ok {F : FuncId} {p : LPart → Bool} {caps : List Value} {f : Adr} {ss : List LPart} {h : H2} (hn0 : ss.length ≤ 1048576)
  (hf : ∀ (i : Nat), i < ss.length → ∀ (F' : Nat → Adr) (h' : H2), h.le h' → PW Tryz.prog W0 F ([.st (xPart F' (ss.getD i default))] ++ caps.map .raw) h' (fun v => v = .raw (.bool (p (ss.getD i default))))) :
  PW Tryz.prog W0 235 [.sl f 2 (rPartS ss), .raw (.func (.func F) #[] caps.toArray)] h (fun v => ∃ k : Int, v = .raw (.int .i64 k) ∧ decide (0 ≤ k) = ss.any p) := by
 refine PW.scalar ((?_ : WC2 _ _ _ _ _ fun v g' => h.le g' ∧ ∃ k : Int, v = .raw (.int .i64 k) ∧ decide (0 ≤ k) = ss.any p).mono fun v g' ⟨h1, k, h2, h3⟩ => ⟨h1, ⟨_, h2⟩, k, h2, h3⟩)
 refine begins [[0, 1], [0, 1], [0, 1, 7, 8], [0, 1, 7, 8], [0, 1, 5, 7, 8], [5], [0, 1, 7, 8], []] Tryz.func235 rfl (rs := [.tmp 4]) rfl rfl ?_
 intro wf
 repeat (first | rw [ko] | rw [kr] | simp -dsimp -implicitDefEqProofs only [go_sem])
 refine lz_keep [0, 1, 7] (fun m e h' => h.le h' ∧ ∃ k : Nat, look e 8 .mk = .raw (.int .i64 k) ∧ m + k = ss.length ∧ ∀ j : Nat, j < k → p (ss.getD j default) = false) ss.length ?_ ?_
 ·exact ⟨H2.le.refl _, 0, zsm, by omega, fun j hj => by omega⟩
 ·rintro m e h' hks ⟨hle, k, e8, hk, hpre⟩
  simp -dsimp -implicitDefEqProofs only [go_sem, sQ1] at hks
  repeat (first | rw [ko] | rw [kr] | simp -dsimp -implicitDefEqProofs only [go_sem, hks, e8])
  refine gz_dec (fun h2 => ?_) (fun h2 => ?_)
  ·have h3 : k < ss.length := by omega
   repeat (first | rw [ko] | rw [kr] | simp -dsimp -implicitDefEqProofs only [go_sem, sQ1, sQ2, sQ3, h3])
   refine pw_intro (hf k h3 (fun j => under (under f k) j) _ hle) ?_
   rintro _ n hn1 rfl
   repeat (first | rw [ko] | rw [kr] | simp -dsimp -implicitDefEqProofs only [go_sem])
   refine gz_intro (fun h4 => ?_) (fun h4 => ?_)
   ·repeat (first | rw [ko] | rw [kr] | simp -dsimp -implicitDefEqProofs only [go_sem, sQ1])
    exact ⟨le_up hle hn1, _, rfl, by rw [any_getD h3 h4]; simp⟩
   ·repeat (first | rw [ko] | rw [kr] | simp -dsimp -implicitDefEqProofs only [go_sem, sQ1, wrap_succ h3 (by omega)])
    refine nx_keep (m - 1) (by omega) zsm ⟨le_up hle hn1, k + 1, zsm, by omega, fun j hj => ?_⟩
    by_cases hji : j = k
    ·subst hji; exact h4
    ·exact hpre j (by omega)
  ·repeat (first | rw [ko] | rw [kr] | simp -dsimp -implicitDefEqProofs only [go_sem])
   exact ⟨hle, _, rfl, by rw [any_none fun j hj => hpre j (by omega)]; rfl⟩
theorem containsP_ok {F : FuncId} {p : LPart → Bool} {caps : List Value} {f : Adr} {ss : List LPart} {h : H2} (hn0 : ss.length ≤ 1048576)
  (hf : ∀ (i : Nat), i < ss.length → ∀ (F' : Nat → Adr) (h' : H2), h.le h' → PW Tryz.prog W0 F ([.st (xPart F' (ss.getD i default))] ++ caps.map .raw) h' (fun v => v = .raw (.bool (p (ss.getD i default))))) :
  PW Tryz.prog W0 218 [.sl f 2 (rPartS ss), .raw (.func (.func F) #[] caps.toArray)] h (fun v => v = .raw (.bool (ss.any p))) := by
 refine PW.scalar ?_
 refine begins [[0, 1], [0, 1]] Tryz.func218 rfl (rs := [.tmp 4]) rfl rfl ?_
 intro wf
 repeat (first | rw [ko] | rw [kr] | simp -dsimp -implicitDefEqProofs only [go_sem])
 refine pw_intro (indexP_ok hn0 hf) ?_
 rintro _ n hn1 ⟨k, rfl, hk⟩
 repeat (first | rw [ko] | rw [kr] | simp -dsimp -implicitDefEqProofs only [go_sem, hk])
 exact ⟨le_up (H2.le.refl _) hn1, ⟨_, rfl⟩, rfl⟩
theorem indexQ_ok {F : FuncId} {p : List LPart → Bool} {caps : List Value} {f : Adr} {ss : List (List LPart)} {h : H2} (hn0 : ss.length ≤ 1048576)
  (hf : ∀ (i : Nat), i < ss.length → ∀ (f' : Adr) (h' : H2), h.le h' → PW Tryz.prog W0 F ([.sl f' 2 (rPartS (ss.getD i default))] ++ caps.map .raw) h' (fun v => v = .raw (.bool (p (ss.getD i default))))) :
  PW Tryz.prog W0 217 [.sl f 1 (rPartSS ss), .raw (.func (.func F) #[] caps.toArray)] h (fun v => ∃ k : Int, v = .raw (.int .i64 k) ∧ decide (0 ≤ k) = ss.any p) := by
 refine PW.scalar ((?_ : WC2 _ _ _ _ _ fun v g' => h.le g' ∧ ∃ k : Int, v = .raw (.int .i64 k) ∧ decide (0 ≤ k) = ss.any p).mono fun v g' ⟨h1, k, h2, h3⟩ => ⟨h1, ⟨_, h2⟩, k, h2, h3⟩)
 refine begins [[0, 1], [0, 1], [0, 1, 7, 8], [0, 1, 7, 8], [0, 1, 5, 7, 8], [5], [0, 1, 7, 8], []] Tryz.func217 rfl (rs := [.tmp 4]) rfl rfl ?_
 intro wf
 repeat (first | rw [ko] | rw [kr] | simp -dsimp -implicitDefEqProofs only [go_sem])
 refine lz_keep [0, 1, 7] (fun m e h' => h.le h' ∧ ∃ k : Nat, look e 8 .mk = .raw (.int .i64 k) ∧ m + k = ss.length ∧ ∀ j : Nat, j < k → p (ss.getD j default) = false) ss.length ?_ ?_
 ·exact ⟨H2.le.refl _, 0, zsm, by omega, fun j hj => by omega⟩
 ·rintro m e h' hks ⟨hle, k, e8, hk, hpre⟩
  simp -dsimp -implicitDefEqProofs only [go_sem, sQ1] at hks
  repeat (first | rw [ko] | rw [kr] | simp -dsimp -implicitDefEqProofs only [go_sem, hks, e8])
  refine gz_dec (fun h2 => ?_) (fun h2 => ?_)
  ·have h3 : k < ss.length := by omega
   repeat (first | rw [ko] | rw [kr] | simp -dsimp -implicitDefEqProofs only [go_sem, sQ1, h3])
   refine pw_intro (hf k h3 _ _ hle) ?_
   rintro _ n hn1 rfl
   repeat (first | rw [ko] | rw [kr] | simp -dsimp -implicitDefEqProofs only [go_sem])
   refine gz_intro (fun h4 => ?_) (fun h4 => ?_)
   ·repeat (first | rw [ko] | rw [kr] | simp -dsimp -implicitDefEqProofs only [go_sem, sQ1])
    exact ⟨le_up hle hn1, _, rfl, by rw [any_getD h3 h4]; simp⟩
   ·repeat (first | rw [ko] | rw [kr] | simp -dsimp -implicitDefEqProofs only [go_sem, sQ1, wrap_succ h3 (by omega)])
    refine nx_keep (m - 1) (by omega) zsm ⟨le_up hle hn1, k + 1, zsm, by omega, fun j hj => ?_⟩
    by_cases hji : j = k
    ·subst hji; exact h4
    ·exact hpre j (by omega)
  ·repeat (first | rw [ko] | rw [kr] | simp -dsimp -implicitDefEqProofs only [go_sem])
   exact ⟨hle, _, rfl, by rw [any_none fun j hj => hpre j (by omega)]; rfl⟩
theorem containsQ_ok {F : FuncId} {p : List LPart → Bool} {caps : List Value} {f : Adr} {ss : List (List LPart)} {h : H2} (hn0 : ss.length ≤ 1048576)
  (hf : ∀ (i : Nat), i < ss.length → ∀ (f' : Adr) (h' : H2), h.le h' → PW Tryz.prog W0 F ([.sl f' 2 (rPartS (ss.getD i default))] ++ caps.map .raw) h' (fun v => v = .raw (.bool (p (ss.getD i default))))) :
  PW Tryz.prog W0 179 [.sl f 1 (rPartSS ss), .raw (.func (.func F) #[] caps.toArray)] h (fun v => v = .raw (.bool (ss.any p))) := by
 refine PW.scalar ?_
 refine begins [[0, 1], [0, 1]] Tryz.func179 rfl (rs := [.tmp 4]) rfl rfl ?_
 intro wf
 repeat (first | rw [ko] | rw [kr] | simp -dsimp -implicitDefEqProofs only [go_sem])
 refine pw_intro (indexQ_ok hn0 hf) ?_
 rintro _ n hn1 ⟨k, rfl, hk⟩
 repeat (first | rw [ko] | rw [kr] | simp -dsimp -implicitDefEqProofs only [go_sem, hk])
 exact ⟨le_up (H2.le.refl _) hn1, ⟨_, rfl⟩, rfl⟩
theorem parts1_ok {F : Nat → Adr} {p : LPart} {b z : Nat} {n : Int} {h : H2} (hbn : b < hn h .mk) (hb : hg h b .mk = some ⟨z, [.raw (.int .i64 n)]⟩) (hs : p.values.length ≤ 1048576) : PW Tryz.prog W0 219 [.st (xPart F p), .raw (.pointer (some ⟨b, 0, none⟩))] h (fun y => y = .raw (.bool (!partN n p))) := by
 refine PW.scalar ?_
 refine begins [[0, 1], [1, 2]] Tryz.func219 rfl (rs := [.tmp 3]) rfl rfl ?_
 intro wf
 have hne : (b == hn h .mk) = false := zne
 repeat (first | rw [ko] | rw [kr] | simp -dsimp -implicitDefEqProofs only [go_sem, hb, hne, hoo])
 refine pw_intro (implPart_ok (F := F) hs) ?_
 rintro _ n1 hn1 rfl
 rw [hn_push] at hn1
 repeat (first | rw [ko] | rw [kr] | simp -dsimp -implicitDefEqProofs only [go_sem])
 exact ⟨le_up (le_push (H2.le.refl _)) (by rw [hn_push]; exact hn1), ⟨_, rfl⟩, rfl⟩
theorem partsOk_ok {f : Adr} {l : List LPart} {k n : Int} {g : H2} (hs : smallP l) : PW Tryz.prog W0 181 [.sl f 2 (rPartS l), .raw (.int .i64 k), .raw (.int .i64 n)] g (fun y => y = .raw (.bool (partsB l k n))) := by
 refine PW.scalar ?_
 refine begins [[0, 1, 2], [0, 1, 5]] Tryz.func181 rfl (rs := [.tmp 6]) rfl rfl ?_
 intro wf
 by_cases h1 : (l.length : Int) = k
 ·have d1 : decide ((l.length : Int) = k) = true := decide_eq_true h1
  repeat (first | rw [ko] | rw [kr] | simp -dsimp -implicitDefEqProofs only [go_sem, sQ1, d1, hoo])
  refine pw_intro (containsP_ok (F := 219) (p := fun x => !partN n x) (caps := [.pointer (some ⟨hn g .mk, 0, none⟩)]) hs.1 fun i hi F' h' hle => ?_) ?_
  ·refine parts1_ok (z := 1) ?_ ((hle.2 (hn g .mk) (by rw [hn_push]; omega)).trans (by simp -dsimp -implicitDefEqProofs only [go_sem, hoo])) (hs.2 i hi)
   have := hle.1
   rw [hn_push] at this; omega
  rintro _ n1 hn1 rfl
  rw [hn_push] at hn1
  repeat (first | rw [ko] | rw [kr] | simp -dsimp -implicitDefEqProofs only [go_sem])
  exact ⟨le_up (le_push (H2.le.refl _)) (by rw [hn_push]; exact hn1), ⟨_, rfl⟩, by rw [partsB, d1]; rfl⟩
 ·have d1 : decide ((l.length : Int) = k) = false := decide_eq_false h1
  repeat (first | rw [ko] | rw [kr] | simp -dsimp -implicitDefEqProofs only [go_sem, sQ1, d1, hoo])
  exact ⟨le_push (H2.le.refl _), ⟨_, rfl⟩, by rw [partsB, d1]; rfl⟩
theorem lays1_ok {f : Adr} {l : List LPart} {b : Nat} {d k : Int} {ks : List X} {h : H2} (hb : hg h b .mk = some ⟨14, .raw (.int .i64 d) :: .raw (.int .i64 k) :: ks⟩) (hd : d = 4 ∨ d = 8) (hk : k = 1 ∨ k = 2) (hs : smallP l) : PW Tryz.prog W0 180 [.sl f 2 (rPartS l), .raw (.pointer (some ⟨b, 0, none⟩))] h (fun y => y = .raw (.bool (!partsB l k (Int.tdiv d k)))) := by
 refine PW.scalar ?_
 refine begins [[0, 1], [0, 1]] Tryz.func180 rfl (rs := [.tmp 3]) rfl rfl ?_
 intro wf
 have z0 : (k == 0) = false := zne
 have w1 : IntKind.i64.wrap (Int.tdiv d k) = Int.tdiv d k := by
  rcases hd with hd | hd <;> rcases hk with hk | hk <;> rw [hd, hk] <;> decide
 repeat (first | rw [ko] | rw [kr] | simp -dsimp -implicitDefEqProofs only [go_sem])
 refine dq_intro [(0, []), (1, []), (2, []), (3, []), (4, []), (5, []), (6, []), (7, []), (8, []), (9, []), (10, [])] (by kernel_rfl) ?_
 repeat (first | rw [ko] | rw [kr] | simp -dsimp -implicitDefEqProofs only [go_sem, sQ1, hb, z0, w1])
 refine pw_intro (partsOk_ok hs) ?_
 rintro _ n1 hn1 rfl
 try (rw [kq]; refine ⟨zsm, ?_⟩)
 repeat (first | rw [ko] | rw [kr] | simp -dsimp -implicitDefEqProofs only [go_sem])
 exact ⟨le_up (H2.le.refl _) hn1, ⟨_, rfl⟩, rfl⟩
theorem layersOk_ok {f : Adr} {F : Nat → Adr} {l : List (List LPart)} {m : LModel} {g : H2} (hd : m.dim = 4 ∨ m.dim = 8) (hk : m.heads = 1 ∨ m.heads = 2) (hs : smallPP l) : PW Tryz.prog W0 131 [.sl f 1 (rPartSS l), .st (xModel F m)] g (fun y => y = .raw (.bool (layersB l m))) := by
 refine PW.scalar ?_
 refine begins [[0, 1], [0, 3]] Tryz.func131 rfl (rs := [.tmp 4]) rfl rfl ?_
 intro wf
 by_cases h1 : (l.length : Int) = m.layers.length
 ·have d1 : decide ((l.length : Int) = m.layers.length) = true := decide_eq_true h1
  repeat (first | rw [ko] | rw [kr] | simp -dsimp -implicitDefEqProofs only [go_sem, sQ1, d1, hoo])
  refine pw_intro (containsQ_ok (F := 180) (p := fun x => !partsB x m.heads (Int.tdiv m.dim m.heads)) (caps := [.pointer (some ⟨hn g .mk, 0, none⟩)]) hs.1 fun i hi f' h' hle => ?_) ?_
  ·exact lays1_ok ((hle.2 (hn g .mk) (by rw [hn_push]; omega)).trans (by simp -dsimp -implicitDefEqProofs only [go_sem, hoo] <;> rfl)) hd hk (hs.2 i hi)
  rintro _ n1 hn1 rfl
  rw [hn_push] at hn1
  repeat (first | rw [ko] | rw [kr] | simp -dsimp -implicitDefEqProofs only [go_sem])
  exact ⟨le_up (le_push (H2.le.refl _)) (by rw [hn_push]; exact hn1), ⟨_, rfl⟩, by rw [layersB, d1]; rfl⟩
 ·have d1 : decide ((l.length : Int) = m.layers.length) = false := decide_eq_false h1
  repeat (first | rw [ko] | rw [kr] | simp -dsimp -implicitDefEqProofs only [go_sem, d1, hoo])
  exact ⟨le_push (H2.le.refl _), ⟨_, rfl⟩, by rw [layersB, d1]; rfl⟩
theorem cellOk_ok {F F' : Nat → Adr} {c : LCell} {m : LModel} {g : H2} (hd : m.dim = 4 ∨ m.dim = 8) (hk : m.heads = 1 ∨ m.heads = 2) (hs : smallPP c.keys ∧ smallPP c.values) : PW Tryz.prog W0 63 [.st (xCell F' c), .st (xModel F m)] g (fun y => y = .raw (.bool (cellB c m))) := by
 refine PW.scalar ?_
 refine begins [[0, 1], [2, 3]] Tryz.func63 rfl (rs := [.tmp 4]) rfl rfl ?_
 intro wf
 have hne : (hn g .mk == hn g .mk + 1) = false := by simp
 repeat (first | rw [ko] | rw [kr] | simp -dsimp -implicitDefEqProofs only [go_sem, hoo, hne])
 refine pw_intro (layersOk_ok (F := F) hd hk hs.1) ?_
 rintro _ n1 hn1 rfl
 simp only [hn_push] at hn1
 cases h1 : layersB c.keys m
 ·repeat (first | rw [ko] | rw [kr] | simp -dsimp -implicitDefEqProofs only [go_sem, hoo])
  exact ⟨le_up (le_push (le_push (H2.le.refl _))) (by simp only [hn_push]; exact hn1), ⟨_, rfl⟩, by rw [cellB, h1]; rfl⟩
 repeat (first | rw [ko] | rw [kr] | simp -dsimp -implicitDefEqProofs only [go_sem, sQ1, hoo, hne])
 refine pw_intro (layersOk_ok (F := F) hd hk hs.2) ?_
 rintro _ n2 hn2 rfl
 rw [hn_up] at hn2
 repeat (first | rw [ko] | rw [kr] | simp -dsimp -implicitDefEqProofs only [go_sem])
 exact ⟨le_up (le_up (le_push (le_push (H2.le.refl _))) (by simp only [hn_push]; exact hn1)) (by rw [hn_up]; exact hn2), ⟨_, rfl⟩, by rw [cellB, h1]; rfl⟩
end Go.Bi
end
section
namespace Go.Bi
open Go.Proofs
def absB (n : Int) (l : List Int) : Prop := ∀ x ∈ l, -n ≤ x ∧ x ≤ n
theorem allI_absB {l : List Int} {n m : Int} (h : absB n l) (hm : n ≤ m) : allI l (-m) m = true := by
 rw [allI, List.all_eq_true]
 intro x hx
 have := h x hx
 rw [inI, Bool.and_eq_true]
 exact ⟨decide_eq_true (by omega), decide_eq_true (by omega)⟩
def clp (x m : Int) : Int := if x > m then m else if x < -m then -m else x
theorem clp_abs {x m : Int} (h : 0 ≤ m) : -m ≤ clp x m ∧ clp x m ≤ m := by
 unfold clp
 split
 ·omega
 ·split <;> omega
def mulSh (x mul : Int) (sh : Nat) : Int := (x * mul + (2 ^ sh : Int) / 2) / (2 ^ sh : Int)
def sumF (f : Nat → Int) : Nat → Int
 | 0 => 0
 | n + 1 => sumF f n + f n
theorem sumF_abs {f : Nat → Int} {b : Int} (hb : 0 ≤ b) : ∀ {n : Nat}, (∀ i, i < n → -b ≤ f i ∧ f i ≤ b) → -(b * n) ≤ sumF f n ∧ sumF f n ≤ b * n
 | 0, _ => by simp [sumF]
 | n + 1, h => by
  have h1 := sumF_abs hb (n := n) (fun i hi => h i (by omega))
  have h2 := h n (by omega)
  have h3 : b * ((n + 1 : Nat) : Int) = b * (n : Int) + b := by rw [Int.natCast_add, Int.mul_add]; simp
  rw [h3]
  show -(b * (n : Int) + b) ≤ sumF f n + f n ∧ sumF f n + f n ≤ b * (n : Int) + b
  omega
theorem mul_abs {x y a b : Int} (hx : -a ≤ x ∧ x ≤ a) (hy : -b ≤ y ∧ y ≤ b) : -(a * b) ≤ x * y ∧ x * y ≤ a * b := by
 have ha : 0 ≤ a := by omega
 have hb : 0 ≤ b := by omega
 have h1 : x.natAbs ≤ a.natAbs := by omega
 have h2 : y.natAbs ≤ b.natAbs := by omega
 have h3 := Nat.mul_le_mul h1 h2
 rw [← Int.natAbs_mul, ← Int.natAbs_mul] at h3
 have h4 : 0 ≤ a * b := Int.mul_nonneg ha hb
 omega
def rowI (r s x : List Int) : Int := sumF (fun i => s.getD (i / 4) default * r.getD i default * x.getD i default) r.length
def wideI (m : LMatrix) (x : List Int) : List Int := (List.range m.rows.length).map fun i => rowI (m.rows.getD i default) (m.scales.getD i default) x
def narrowI (m : LMatrix) (l : List Int) : List Int := l.map fun n => clp (mulSh n m.mul m.shift.toNat) 127
def applyI (m : LMatrix) (x : List Int) : List Int := narrowI m (wideI m x)
theorem wideI_len {m : LMatrix} {x : List Int} : (wideI m x).length = m.rows.length := by simp [wideI]
theorem applyI_len {m : LMatrix} {x : List Int} : (applyI m x).length = m.rows.length := by simp [applyI, narrowI, wideI]
theorem applyI_abs {m : LMatrix} {x : List Int} : absB 127 (applyI m x) := fun y hy => by
 obtain ⟨n, _, rfl⟩ := List.mem_map.1 hy
 exact clp_abs (by omega)
def rootF (n : Int) : Nat → Int → Int → Int
 | 0, lo, _ => lo
 | k + 1, lo, hi => if hi - lo > 1 then (if ((lo + hi) / 2) * ((lo + hi) / 2) ≤ n then rootF n k ((lo + hi) / 2) hi else rootF n k lo ((lo + hi) / 2)) else lo
def rootI (n : Int) : Int := rootF n 1000002 0 1000001
def meanI (x : List Int) : Int := sumF (fun i => x.getD i default) x.length / (x.length : Int)
def spreadI (x : List Int) : Int := sumF (fun i => (x.getD i default - meanI x) * (x.getD i default - meanI x)) x.length / (x.length : Int)
def normI (x g : List Int) : List Int := (List.range x.length).map fun i => clp ((x.getD i default - meanI x) * g.getD i default / rootI (spreadI x + 1)) 127
theorem normI_len {x g : List Int} : (normI x g).length = x.length := by simp [normI]
theorem normI_abs {x g : List Int} : absB 127 (normI x g) := fun y hy => by
 obtain ⟨n, _, rfl⟩ := List.mem_map.1 hy
 exact clp_abs (by omega)
def turnA (a b c s : Int) : Int := clp ((a * c - b * s) / 128) 127
def turnC (a b c s : Int) : Int := clp ((a * s + b * c) / 128) 127
def turnsI (c s : List Int) (head : Nat) (x : List Int) : List Int := (List.range x.length).map fun i =>
 if i % 2 = 0 then turnA (x.getD i default) (x.getD (i + 1) default) (c.getD (i % head / 2) default) (s.getD (i % head / 2) default)
 else turnC (x.getD (i - 1) default) (x.getD i default) (c.getD ((i - 1) % head / 2) default) (s.getD ((i - 1) % head / 2) default)
theorem turnsI_len {c s : List Int} {head : Nat} {x : List Int} : (turnsI c s head x).length = x.length := by simp [turnsI]
theorem turnsI_abs {c s : List Int} {head : Nat} {x : List Int} : absB 127 (turnsI c s head x) := fun y hy => by
 obtain ⟨n, _, rfl⟩ := List.mem_map.1 hy
 split <;> exact clp_abs (by omega)
def headI (x : List Int) (size h : Nat) : List Int := (x.drop (h * size)).take size
def cutV (x : List Int) (sh : Nat) : List Int := x.map fun n => clp (mulSh n 1 sh) 15
def cutB (x : List Int) (sh : Nat) : Bool := x.all fun n => inI (mulSh n 1 sh) (-15) 15
def cutS (x : List Int) : Nat := if cutB x 0 = true then 0 else if cutB x 1 = true then 1 else if cutB x 2 = true then 2 else if cutB x 3 = true then 3 else 4
def cutI (x : List Int) : LPart := ⟨cutS x, cutV x (cutS x)⟩
def backI (p : LPart) : List Int := p.values.map fun n => clp (n * 2 ^ p.shift.toNat) 127
theorem cutI_ok {x : List Int} (h1 : 1 ≤ x.length) (h2 : x.length ≤ 8) : partB (cutI x) = true := by
 have hs : cutS x ≤ 4 := by
  unfold cutS
  repeat (first | omega | split)
 unfold partB cutI
 simp only [Bool.and_eq_true]
 refine ⟨?_, ?_, ?_⟩
 ·rw [inI, Bool.and_eq_true]; exact ⟨decide_eq_true (by omega), decide_eq_true (by omega)⟩
 ·rw [inI, Bool.and_eq_true]
  have : (cutV x (cutS x)).length = x.length := by simp [cutV]
  exact ⟨decide_eq_true (by omega), decide_eq_true (by omega)⟩
 ·refine allI_absB (n := 15) (fun y hy => ?_) (by omega)
  obtain ⟨n, _, rfl⟩ := List.mem_map.1 hy
  exact clp_abs (by omega)
theorem backI_len {p : LPart} : (backI p).length = p.values.length := by simp [backI]
theorem backI_abs {p : LPart} : absB 127 (backI p) := fun y hy => by
 obtain ⟨n, _, rfl⟩ := List.mem_map.1 hy
 exact clp_abs (by omega)
def dotI (q k : List Int) : Int := sumF (fun i => q.getD i default * k.getD i default) q.length
def scoreI (q k : List Int) : Int := dotI q k / 16
def addI (x y : List Int) : List Int := (List.range x.length).map fun i => clp (x.getD i default + y.getD i default) 500
theorem addI_len {x y : List Int} : (addI x y).length = x.length := by simp [addI]
theorem addI_abs {x y : List Int} : absB 500 (addI x y) := fun z hz => by
 obtain ⟨n, _, rfl⟩ := List.mem_map.1 hz
 exact clp_abs (by omega)
def bendI (x : Int) : Int := x * (128 + clp x 128) / 256
end Go.Bi
end
section
namespace Go.Bi
open Go.Proofs
def expN (x : Int) : Int := if x < -4000 then 0 else if x > 0 then 256 else (256 - (-x) % 177 + ((-x) % 177) * ((-x) % 177) / 512) / 2 ^ ((-x) / 177).toNat
theorem expN_zero : expN 0 = 256 := by decide
theorem expN_in {x : Int} : 0 ≤ expN x ∧ expN x ≤ 256 := by
 unfold expN
 split
 ·omega
 ·split
  ·omega
  ·have h1 : 0 ≤ (-x) % 177 ∧ (-x) % 177 < 177 := by omega
   generalize (-x) % 177 = r at *
   have h2 : 0 ≤ r * r ∧ r * r ≤ 176 * 176 := by
    have := mul_abs (x := r) (y := r) (a := 176) (b := 176) (by omega) (by omega)
    have := Int.mul_nonneg h1.1 h1.1
    omega
   have h3 : 0 ≤ 256 - r + r * r / 512 ∧ 256 - r + r * r / 512 ≤ 256 := by
    constructor
    ·omega
    ·have h4 : r * r ≤ 176 * r := Int.mul_le_mul_of_nonneg_right (by omega) h1.1
     omega
   have h5 : (0 : Int) < 2 ^ ((-x) / 177).toNat := Int.pow_pos (by omega)
   refine ⟨Int.ediv_nonneg h3.1 (by omega), ?_⟩
   exact Int.le_trans (Int.ediv_le_self _ h3.1) h3.2
def maxI (l : List Int) : Int := l.foldl max (l.getD 0 default)
def expsI (l : List Int) : List Int := l.map fun n => expN (n - maxI l)
def sharesI (l : List Int) : List Int := (expsI l).map fun e => e * 256 / sumF (fun i => (expsI l).getD i default) l.length
theorem sharesI_len {l : List Int} : (sharesI l).length = l.length := by simp [sharesI, expsI]
def mixI (sh : List Int) (vs : List (List Int)) (size : Nat) : List Int := (List.range size).map fun k => clp (sumF (fun i => sh.getD i default * (vs.getD i default).getD k default) sh.length / 256) 127
theorem mixI_len {sh : List Int} {vs : List (List Int)} {size : Nat} : (mixI sh vs size).length = size := by simp [mixI]
theorem mixI_abs {sh : List Int} {vs : List (List Int)} {size : Nat} : absB 127 (mixI sh vs size) := fun y hy => by
 obtain ⟨n, _, rfl⟩ := List.mem_map.1 hy
 exact clp_abs (by omega)
def attendI (q : List Int) (ks vs : List (List Int)) : List Int := mixI (sharesI (ks.map fun k => scoreI q k)) vs q.length
def ofHeadI (l : List (List LPart)) (h : Nat) : List (List Int) := l.map fun ps => backI (ps.getD h default)
def sizeH (m : LModel) : Nat := m.dim.toNat / m.heads.toNat
def turnM (m : LModel) (place : Nat) (x : List Int) : List Int := turnsI (m.turns.cos.getD place default) (m.turns.sin.getD place default) (sizeH m) x
def keysI (m : LModel) (l : LLayer) (place : Nat) (x : List Int) : List LPart := (List.range m.heads.toNat).map fun h => cutI (headI (turnM m place (applyI l.k (normI x l.gain1))) (sizeH m) h)
def valsI (m : LModel) (l : LLayer) (x : List Int) : List LPart := (List.range m.heads.toNat).map fun h => cutI (headI (applyI l.v (normI x l.gain1)) (sizeH m) h)
def allHI (m : LModel) (q : List Int) (ks vs : List (List LPart)) : List Int := (List.range m.heads.toNat).flatMap fun h => attendI (headI q (sizeH m) h) (ofHeadI ks h) (ofHeadI vs h)
def midI (m : LModel) (l : LLayer) (place : Nat) (x : List Int) (ks vs : List (List LPart)) : List Int := addI x (applyI l.o (allHI m (turnM m place (applyI l.q (normI x l.gain1))) ks vs))
def stepI (m : LModel) (l : LLayer) (place : Nat) (x : List Int) (ks vs : List (List LPart)) : List Int :=
 addI (midI m l place x ks vs) (applyI l.down ((applyI l.up (normI (midI m l place x ks vs) l.gain2)).map bendI))
def tokX (m : LModel) (past : List LCell) (t : Nat) : Nat → List Int × LCell
 | 0 => (m.embed.getD t default, ⟨[], []⟩)
 | n + 1 =>
  let r := tokX m past t n
  let l := m.layers.getD n default
  (stepI m l past.length r.1 (past.map (fun c => c.keys.getD n default) ++ [keysI m l past.length r.1]) (past.map (fun c => c.values.getD n default) ++ [valsI m l r.1]),
   ⟨r.2.keys ++ [keysI m l past.length r.1], r.2.values ++ [valsI m l r.1]⟩)
def cellI (m : LModel) (past : List LCell) (t : Nat) : LCell := (tokX m past t m.layers.length).2
def logitsI (m : LModel) (past : List LCell) (t : Nat) : List Int := wideI m.head (normI (tokX m past t m.layers.length).1 m.gainEnd)
def fillI (m : LModel) (ts : List Int) : Nat → List LCell
 | 0 => []
 | n + 1 => fillI m ts n ++ [cellI m (fillI m ts n) (ts.getD n default).toNat]
end Go.Bi
end
section
namespace Go.Bi
theorem getD_abs {l : List Int} {n : Int} (h0 : 0 ≤ n) (h : absB n l) (i : Nat) : -n ≤ l.getD i default ∧ l.getD i default ≤ n := by
 rw [List.getD_eq_getElem?_getD]
 by_cases hi : i < l.length
 ·rw [List.getElem?_eq_getElem hi]; exact h _ (List.getElem_mem hi)
 ·rw [List.getElem?_eq_none (by omega)]
  have : (default : Int) = 0 := rfl
  show -n ≤ (default : Int) ∧ (default : Int) ≤ n
  omega
theorem absB_mono {l : List Int} {n m : Int} (h : absB n l) (hm : n ≤ m) : absB m l := fun x hx => by have := h x hx; omega
theorem allI_abs {l : List Int} {a b n : Int} (h : allI l a b = true) (h1 : -n ≤ a) (h2 : b ≤ n) : absB n l := fun x hx => by
 have := inI_tt (List.all_eq_true.1 h x hx)
 omega
theorem width_t {n : Int} (h : widthB n = true) : n = 4 ∨ n = 8 := by
 unfold widthB at h
 rw [Bool.and_eq_true] at h
 have h1 := inI_tt h.1
 have h2 := of_decide_eq_true h.2
 have h3 : n = 4 ∨ n = 5 ∨ n = 6 ∨ n = 7 ∨ n = 8 := by omega
 rcases h3 with rfl | rfl | rfl | rfl | rfl <;> simp_all <;> exact absurd h2 (by decide)
theorem row_t {r s : List Int} (h : rowB r s = true) : (r.length = 4 ∨ r.length = 8) ∧ s.length = r.length / 4 ∧ absB 8 r ∧ absB 127 s := by
 unfold rowB at h
 simp only [Bool.and_eq_true, decide_eq_true_eq] at h
 obtain ⟨h1, h2, h3, h4⟩ := h
 have h1 := width_t h1
 have h1' : r.length = 4 ∨ r.length = 8 := by omega
 refine ⟨h1', ?_, allI_abs h2 (by omega) (by omega), allI_abs h4 (by omega) (by omega)⟩
 rcases h1' with e | e <;> rw [e] at h3 ⊢
 ·have : Int.tdiv ((4 : Nat) : Int) 4 = 1 := by decide
  omega
 ·have : Int.tdiv ((8 : Nat) : Int) 4 = 2 := by decide
  omega
theorem row_at {r s x : List Int} (h : rowB r s = true) (hx : absB 127 x) (i : Nat) :
  (-1016 ≤ s.getD (i / 4) default * r.getD i default ∧ s.getD (i / 4) default * r.getD i default ≤ 1016) ∧
  (-129032 ≤ s.getD (i / 4) default * r.getD i default * x.getD i default ∧ s.getD (i / 4) default * r.getD i default * x.getD i default ≤ 129032) := by
 obtain ⟨h1, h2, h3, h4⟩ := row_t h
 have a1 := mul_abs (getD_abs (by omega) h4 (i / 4)) (getD_abs (by omega) h3 i)
 have a2 := mul_abs a1 (getD_abs (by omega) hx i)
 omega
theorem row_to {r s x : List Int} (h : rowB r s = true) (hx : absB 127 x) {n : Nat} (hn : n ≤ 8) : -1032256 ≤ sumF (fun i => s.getD (i / 4) default * r.getD i default * x.getD i default) n ∧ sumF (fun i => s.getD (i / 4) default * r.getD i default * x.getD i default) n ≤ 1032256 := by
 have := sumF_abs (f := fun i => s.getD (i / 4) default * r.getD i default * x.getD i default) (b := 129032) (by omega) (n := n) (fun i _ => (row_at h hx i).2)
 omega
theorem mat_t {m : LMatrix} (h : matB m = true) : (m.width = 4 ∨ m.width = 8) ∧ m.rows.length ≤ 300 ∧ m.scales.length = m.rows.length ∧ (0 ≤ m.mul ∧ m.mul ≤ 65536) ∧ (0 ≤ m.shift ∧ m.shift ≤ 24) ∧
  ∀ i, i < m.rows.length → ((m.rows.getD i default).length : Int) = m.width ∧ rowB (m.rows.getD i default) (m.scales.getD i default) = true := by
 unfold matB at h
 simp only [Bool.and_eq_true, decide_eq_true_eq] at h
 obtain ⟨h1, h2, h3, h4, h5, h6⟩ := h
 refine ⟨width_t h1, by omega, by omega, inI_tt h4, inI_tt h5, fun i hi => ?_⟩
 have := List.all_eq_true.1 h6 i (List.mem_range.2 hi)
 unfold lineB at this
 rwa [Bool.and_eq_true, decide_eq_true_eq] at this
theorem wide_abs {m : LMatrix} {x : List Int} (h : matB m = true) (hx : absB 127 x) : absB 1032256 (wideI m x) := fun y hy => by
 obtain ⟨i, hi, rfl⟩ := List.mem_map.1 hy
 obtain ⟨_, _, _, _, _, h6⟩ := mat_t h
 have h7 := (h6 i (List.mem_range.1 hi)).2
 have h8 := row_t h7
 exact row_to h7 hx (by omega)
theorem rootF_in (n : Int) : ∀ (k : Nat) (lo hi : Int), 0 ≤ lo → lo < hi → hi - lo ≤ k → lo * lo ≤ n → n < hi * hi → 0 ≤ rootF n k lo hi ∧ rootF n k lo hi * rootF n k lo hi ≤ n ∧ n < (rootF n k lo hi + 1) * (rootF n k lo hi + 1)
 | 0, lo, hi, h0, h1, h2, h3, h4 => by omega
 | k + 1, lo, hi, h0, h1, h2, h3, h4 => by
  unfold rootF
  split
  ·split
   ·exact rootF_in n k _ _ (by omega) (by omega) (by omega) (by assumption) h4
   ·exact rootF_in n k _ _ (by omega) (by omega) (by omega) h3 (by omega)
  ·have : hi = lo + 1 := by omega
   subst this
   exact ⟨h0, h3, h4⟩
theorem sq_lt {a b : Int} (h0 : 0 ≤ a) (h : a < b) : a * a < b * b := by
 have h1 : a * a ≤ a * b := Int.mul_le_mul_of_nonneg_left (by omega) h0
 have h2 : a * b < b * b := Int.mul_lt_mul_of_pos_right h (by omega)
 omega
theorem sq_inj {a b n : Int} (ha : 0 ≤ a) (hb : 0 ≤ b) (h1 : a * a ≤ n) (h2 : n < (a + 1) * (a + 1)) (h3 : b * b ≤ n) (h4 : n < (b + 1) * (b + 1)) : a = b := by
  rcases Int.lt_trichotomy a b with h | h | h
  · have : (a + 1) * (a + 1) ≤ b * b := by
      rcases Int.lt_or_eq_of_le (show a + 1 ≤ b by omega) with e | e
      · have := sq_lt (by omega) e; omega
      · rw [e]; omega
    omega
  · exact h
  · have : (b + 1) * (b + 1) ≤ a * a := by
      rcases Int.lt_or_eq_of_le (show b + 1 ≤ a by omega) with e | e
      · have := sq_lt (by omega) e; omega
      · rw [e]; omega
    omega
theorem rootI_in {n : Int} (h0 : 0 ≤ n) (h1 : n ≤ 1000000000000) : 0 ≤ rootI n ∧ rootI n * rootI n ≤ n ∧ n < (rootI n + 1) * (rootI n + 1) :=
 rootF_in n _ 0 1000001 (by omega) (by omega) (by omega) (by omega) (by omega)
theorem rootI_is {n r : Int} (h0 : 0 ≤ n) (h1 : n ≤ 1000000000000) (hr : 0 ≤ r) (h2 : r * r ≤ n) (h3 : n < (r + 1) * (r + 1)) : r = rootI n := by
 have := rootI_in h0 h1
 exact sq_inj hr this.1 h2 h3 this.2.1 this.2.2
theorem rootI_pos {n : Int} (h0 : 1 ≤ n) (h1 : n ≤ 1000000000000) : 1 ≤ rootI n := by
 have h2 := rootI_in (n := n) (by omega) h1
 rcases Int.lt_or_eq_of_le h2.1 with h | h
 ·omega
 ·rw [← h] at h2
  omega
theorem div_len {s b : Int} {n : Nat} (h1 : 1 ≤ n) (h8 : n ≤ 8) (h : -(b * n) ≤ s ∧ s ≤ b * n) : -b ≤ s / (n : Int) ∧ s / (n : Int) ≤ b := by
 have : n = 1 ∨ n = 2 ∨ n = 3 ∨ n = 4 ∨ n = 5 ∨ n = 6 ∨ n = 7 ∨ n = 8 := by omega
 rcases this with rfl | rfl | rfl | rfl | rfl | rfl | rfl | rfl <;> omega
theorem sum_to {x : List Int} (hx : absB 1000 x) (n : Nat) : -(1000 * n) ≤ sumF (fun i => x.getD i default) n ∧ sumF (fun i => x.getD i default) n ≤ 1000 * n :=
 sumF_abs (by omega) fun i _ => getD_abs (by omega) hx i
theorem mean_abs {x : List Int} (hx : absB 1000 x) (h1 : 1 ≤ x.length) (h8 : x.length ≤ 8) : -1000 ≤ meanI x ∧ meanI x ≤ 1000 := div_len h1 h8 (sum_to hx _)
theorem less_abs {x : List Int} (hx : absB 1000 x) (h1 : 1 ≤ x.length) (h8 : x.length ≤ 8) (i : Nat) : -2000 ≤ x.getD i default - meanI x ∧ x.getD i default - meanI x ≤ 2000 := by
 have a := mean_abs hx h1 h8
 have b := getD_abs (by omega) hx i
 omega
theorem sqs_at {x : List Int} (hx : absB 1000 x) (h1 : 1 ≤ x.length) (h8 : x.length ≤ 8) (i : Nat) : 0 ≤ (x.getD i default - meanI x) * (x.getD i default - meanI x) ∧ (x.getD i default - meanI x) * (x.getD i default - meanI x) ≤ 4000000 := by
 have a := less_abs hx h1 h8 i
 have b := mul_abs a a
 refine ⟨?_, by omega⟩
 rcases Int.le_total 0 (x.getD i default - meanI x) with h | h
 ·exact Int.mul_nonneg h h
 ·exact Int.mul_nonneg_of_nonpos_of_nonpos h h
theorem sumF_le {f g : Nat → Int} : ∀ {n : Nat}, (∀ i, i < n → f i ≤ g i) → sumF f n ≤ sumF g n
 | 0, _ => by simp [sumF]
 | n + 1, h => by
  have h1 := sumF_le (n := n) fun i hi => h i (by omega)
  have h2 := h n (by omega)
  simp only [sumF]; omega
theorem sumF_nn {f : Nat → Int} : ∀ {n : Nat}, (∀ i, i < n → 0 ≤ f i) → 0 ≤ sumF f n
 | 0, _ => by simp [sumF]
 | n + 1, h => by
  have h1 := sumF_nn (n := n) fun i hi => h i (by omega)
  have h2 := h n (by omega)
  simp only [sumF]; omega
theorem sumF_ge {f : Nat → Int} {i : Nat} : ∀ {n : Nat}, (∀ j, j < n → 0 ≤ f j) → i < n → f i ≤ sumF f n
 | 0, _, h => by omega
 | n + 1, h, hi => by
  have h1 := sumF_nn (f := f) (n := n) fun j hj => h j (by omega)
  have h2 := h n (by omega)
  simp only [sumF]
  by_cases e : i = n
  ·subst e; omega
  ·have := sumF_ge (f := f) (n := n) (fun j hj => h j (by omega)) (show i < n by omega)
   omega
theorem sqs_to {x : List Int} (hx : absB 1000 x) (h1 : 1 ≤ x.length) (h8 : x.length ≤ 8) (n : Nat) : 0 ≤ sumF (fun i => (x.getD i default - meanI x) * (x.getD i default - meanI x)) n ∧ sumF (fun i => (x.getD i default - meanI x) * (x.getD i default - meanI x)) n ≤ 4000000 * n := by
 refine ⟨sumF_nn fun i _ => (sqs_at hx h1 h8 i).1, ?_⟩
 exact (sumF_abs (b := 4000000) (by omega) fun i _ => ⟨by have := (sqs_at hx h1 h8 i).1; omega, (sqs_at hx h1 h8 i).2⟩).2
theorem spread_in {x : List Int} (hx : absB 1000 x) (h1 : 1 ≤ x.length) (h8 : x.length ≤ 8) : 0 ≤ spreadI x ∧ spreadI x ≤ 4000000 := by
 have a := sqs_to hx h1 h8 x.length
 refine ⟨Int.ediv_nonneg a.1 (by omega), (div_len h1 h8 ⟨by omega, a.2⟩).2⟩
theorem rootS_in {x : List Int} (hx : absB 1000 x) (h1 : 1 ≤ x.length) (h8 : x.length ≤ 8) : 1 ≤ rootI (spreadI x + 1) := by
 have := spread_in hx h1 h8
 exact rootI_pos (by omega) (by omega)
theorem norm_at {x g : List Int} (hx : absB 1000 x) (hg : absB 127 g) (h1 : 1 ≤ x.length) (h8 : x.length ≤ 8) (i : Nat) : -254000 ≤ (x.getD i default - meanI x) * g.getD i default ∧ (x.getD i default - meanI x) * g.getD i default ≤ 254000 := by
 have := mul_abs (less_abs hx h1 h8 i) (getD_abs (by omega) hg i)
 omega
theorem turn_in {a b c s : Int} (ha : -127 ≤ a ∧ a ≤ 127) (hb : -127 ≤ b ∧ b ≤ 127) (hc : -128 ≤ c ∧ c ≤ 128) (hs : -128 ≤ s ∧ s ≤ 128) :
  (-16256 ≤ a * c ∧ a * c ≤ 16256) ∧ (-16256 ≤ b * s ∧ b * s ≤ 16256) ∧ (-16256 ≤ a * s ∧ a * s ≤ 16256) ∧ (-16256 ≤ b * c ∧ b * c ≤ 16256) := by
 have h1 := mul_abs ha hc
 have h2 := mul_abs hb hs
 have h3 := mul_abs ha hs
 have h4 := mul_abs hb hc
 omega
theorem dot_at {q k : List Int} (hq : absB 127 q) (hk : absB 127 k) (i : Nat) : -16129 ≤ q.getD i default * k.getD i default ∧ q.getD i default * k.getD i default ≤ 16129 := by
 have := mul_abs (getD_abs (by omega) hq i) (getD_abs (by omega) hk i)
 omega
theorem dot_to {q k : List Int} (hq : absB 127 q) (hk : absB 127 k) {n : Nat} (hn : n ≤ 8) : -129032 ≤ sumF (fun i => q.getD i default * k.getD i default) n ∧ sumF (fun i => q.getD i default * k.getD i default) n ≤ 129032 := by
 have := sumF_abs (f := fun i => q.getD i default * k.getD i default) (b := 16129) (by omega) (n := n) (fun i _ => dot_at hq hk i)
 omega
theorem score_abs {q k : List Int} (hq : absB 127 q) (hk : absB 127 k) (h8 : q.length ≤ 8) : -8065 ≤ scoreI q k ∧ scoreI q k ≤ 8065 := by
 have := dot_to hq hk h8
 unfold scoreI dotI
 omega
theorem foldmax_in (l : List Int) : ∀ (a : Int), l.foldl max a = a ∨ l.foldl max a ∈ l := by
 induction l with
 | nil => intro a; exact .inl rfl
 | cons y t ih =>
  intro a
  rw [List.foldl_cons]
  rcases ih (max a y) with h | h
  ·rw [h]
   by_cases e : a ≤ y
   ·rw [Int.max_eq_right e]; exact .inr List.mem_cons_self
   ·rw [Int.max_eq_left (by omega)]; exact .inl rfl
  ·exact .inr (List.mem_cons_of_mem _ h)
theorem maxI_mem {l : List Int} (h : 0 < l.length) : maxI l ∈ l := by
 unfold maxI
 rcases foldmax_in l (l.getD 0 default) with e | e
 ·rw [e]; exact getD_mem h
 ·exact e
theorem maxI_abs {l : List Int} {n : Int} (hl : absB n l) (h : 0 < l.length) : -n ≤ maxI l ∧ maxI l ≤ n := hl _ (maxI_mem h)
theorem exps_len {l : List Int} : (expsI l).length = l.length := by simp [expsI]
theorem exps_at {l : List Int} {i : Nat} (h : i < l.length) : (expsI l).getD i default = expN (l.getD i default - maxI l) := by
 unfold expsI
 rw [List.getD_eq_getElem?_getD, List.getElem?_map, List.getElem?_eq_getElem h, List.getD_eq_getElem?_getD, List.getElem?_eq_getElem h]
 rfl
theorem exps_in {l : List Int} {i : Nat} (h : i < l.length) : 0 ≤ (expsI l).getD i default ∧ (expsI l).getD i default ≤ 256 := by rw [exps_at h]; exact expN_in
theorem expsum_to {l : List Int} {n : Nat} (h : n ≤ l.length) : 0 ≤ sumF (fun i => (expsI l).getD i default) n ∧ sumF (fun i => (expsI l).getD i default) n ≤ 256 * n := by
 refine ⟨sumF_nn fun i hi => (exps_in (by omega)).1, ?_⟩
 exact (sumF_abs (b := 256) (by omega) fun i hi => ⟨by have := (exps_in (l := l) (i := i) (by omega)).1; omega, (exps_in (by omega)).2⟩).2
theorem expsum_pos {l : List Int} (h : 0 < l.length) : 256 ≤ sumF (fun i => (expsI l).getD i default) l.length := by
 obtain ⟨i, hi, e⟩ := List.getElem_of_mem (maxI_mem h)
 have h1 := sumF_ge (f := fun i => (expsI l).getD i default) (i := i) (n := l.length) (fun j hj => (exps_in hj).1) hi
 have h2 : (expsI l).getD i default = 256 := by
  rw [exps_at hi, List.getD_eq_getElem?_getD, List.getElem?_eq_getElem hi, Option.getD_some, e, Int.sub_self, expN_zero]
 have h3 : (fun i => (expsI l).getD i default) i = 256 := h2
 omega
theorem shares_at {l : List Int} {i : Nat} (h : i < l.length) : (sharesI l).getD i default = (expsI l).getD i default * 256 / sumF (fun i => (expsI l).getD i default) l.length := by
 unfold sharesI
 rw [List.getD_eq_getElem?_getD, List.getElem?_map, List.getElem?_eq_getElem (by rw [exps_len]; exact h), List.getD_eq_getElem?_getD, List.getElem?_eq_getElem (by rw [exps_len]; exact h)]
 rfl
theorem shares_in {l : List Int} : ∀ y ∈ sharesI l, 0 ≤ y ∧ y ≤ 256 := fun y hy => by
 obtain ⟨i, hi, rfl⟩ := List.getElem_of_mem hy
 rw [sharesI_len] at hi
 have e := shares_at hi
 rw [List.getD_eq_getElem?_getD, List.getElem?_eq_getElem (by rw [sharesI_len]; exact hi), Option.getD_some] at e
 rw [e]
 have h1 := exps_in hi
 have h2 := expsum_pos (l := l) (by omega)
 have h3 := sumF_ge (f := fun i => (expsI l).getD i default) (i := i) (n := l.length) (fun j hj => (exps_in hj).1) hi
 generalize sumF (fun i => (expsI l).getD i default) l.length = S at *
 generalize (expsI l).getD i default = E at *
 refine ⟨Int.ediv_nonneg (by omega) (by omega), ?_⟩
 refine Int.ediv_le_of_le_mul (by omega) ?_
 omega
theorem shares_all {l : List Int} : allI (sharesI l) 0 256 = true := by
 rw [allI, List.all_eq_true]
 intro x hx
 have := shares_in x hx
 rw [inI, Bool.and_eq_true]
 exact ⟨decide_eq_true this.1, decide_eq_true this.2⟩
theorem mix_at {sh v : List Int} (hs : absB 256 sh) (hv : absB 127 v) (i k : Nat) : -32512 ≤ sh.getD i default * v.getD k default ∧ sh.getD i default * v.getD k default ≤ 32512 := by
 have := mul_abs (getD_abs (by omega) hs i) (getD_abs (by omega) hv k)
 omega
theorem getDL_abs {vs : List (List Int)} {n : Int} (hv : ∀ v ∈ vs, absB n v) (i : Nat) : absB n (vs.getD i default) := by
 rw [List.getD_eq_getElem?_getD]
 by_cases hi : i < vs.length
 ·rw [List.getElem?_eq_getElem hi]; exact hv _ (List.getElem_mem hi)
 ·rw [List.getElem?_eq_none (by omega)]; intro x hx; cases hx
theorem mix_to {sh : List Int} {vs : List (List Int)} (hs : absB 256 sh) (hv : ∀ v ∈ vs, absB 127 v) (k n : Nat) : -(32512 * n) ≤ sumF (fun i => sh.getD i default * (vs.getD i default).getD k default) n ∧ sumF (fun i => sh.getD i default * (vs.getD i default).getD k default) n ≤ 32512 * n :=
 sumF_abs (by omega) fun i _ => mix_at hs (getDL_abs hv i) i k
theorem bend_abs {x : Int} (h : -127 ≤ x ∧ x ≤ 127) : -127 ≤ bendI x ∧ bendI x ≤ 127 := by
 have h1 : clp x 128 = x := by unfold clp; split; omega; split <;> omega
 unfold bendI
 rw [h1]
 have h2 := mul_abs h (show -255 ≤ 128 + x ∧ 128 + x ≤ 255 by omega)
 constructor
 ·omega
 ·omega
end Go.Bi
end
