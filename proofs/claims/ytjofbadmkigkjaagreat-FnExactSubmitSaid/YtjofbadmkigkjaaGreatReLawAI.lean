/- Own lemmas that the theorem of this claim needs: the abstract machine and walks of functions. -/
import Derived.Test.YtjofbadmkigkjaaGreatReLawAH
set_option linter.unusedSimpArgs false
set_option linter.unusedVariables false
open Nat renaming reduceBEq → rq1, reduceAdd → rq2, reduceLeDiff → rq3, reduceMul → rq4
open Int renaming reduceLE → rq5, reduceLT → rq6, reduceBEq → rq7
section
set_option maxRecDepth 20000
namespace Go.Bi
open Go.Proofs
open Go.Ai (wrap_i64 wrap_u8)
variable {W0 : World}
def eIntS (zs : List Int) : List T := [.l 1 (ints zs)]
theorem eIntS_def {zs : List Int} : eIntS zs = [.l 1 (ints zs)] := rfl
attribute [go_sem] eIntS_def
def szIntS (zs : List Int) : Nat := zs.length
def fitIntS (zs : List Int) : Prop := zs.length ≤ 9223372036854775807
def rIntSS (zs : List (List Int)) : List (List T) := zs.map eIntS
theorem rIntSS_len {zs : List (List Int)} : (rIntSS zs).length = zs.length := by simp [rIntSS]
theorem rIntSS_el {zs : List (List Int)} {i : Nat} (hi : i < zs.length) : el (rIntSS zs) i = eIntS (zs.getD i default) := el_map hi
attribute [go_sem] rIntSS_len rIntSS_el
def szIntSS (zs : List (List Int)) : Nat := zs.length + sumN szIntS zs
def fitIntSS (zs : List (List Int)) : Prop := zs.length ≤ 9223372036854775807 ∧ ∀ x ∈ zs, fitIntS x
theorem szIntSS_pw {f : Adr} {zs : List (List Int)} {left : Int} {h : H2} (hf : fitIntSS zs) (hl : 0 ≤ left ∧ left ≤ 1048576) : PW Tryz.prog W0 72 [.sl f 1 (rIntSS zs), .raw (.int .i64 left)] h (fun y => ∃ k : Int, y = .raw (.int .i64 k) ∧ (0 ≤ k → (szIntSS zs : Int) + k ≤ left)) := by
 obtain ⟨hf1, hf2⟩ := hf
 unfold szIntSS
 have hw : IntKind.i64.wrap (left - zs.length) = left - zs.length := by rw [wrap_i64] <;> omega
 refine PW.scalar ?_
 refine begins [[0, 1], [0, 1], [0, 1], [], [0, 1], [0, 1, 5], [0, 1, 5], [0, 1, 5], [0, 1, 5], [], [1]] Tryz.func72 rfl (rs := [.tmp 4]) rfl rfl ?_
 intro wf
 repeat (first | rw [ko] | rw [kr] | simp -dsimp -implicitDefEqProofs only [go_sem, rq1, hw])
 refine gz_dec (fun h1 => ?_) (fun h1 => ?_)
 ·repeat (first | rw [ko] | rw [kr] | simp -dsimp -implicitDefEqProofs only [go_sem])
  exact ⟨H2.le.refl _, ⟨_, rfl⟩, _, rfl, fun hh => by omega⟩
 ·repeat (first | rw [ko] | rw [kr] | simp -dsimp -implicitDefEqProofs only [go_sem, rq1])
  refine lz_keep [0] (fun m e h' => ∃ (k n : Nat) (x : Int), h' = h.up n ∧ hn h .mk ≤ n ∧ look e 5 .mk = .raw (.int .i64 k) ∧ look e 1 .mk = .raw (.int .i64 x) ∧ 0 ≤ x ∧ (zs.length : Int) + sumN szIntS (zs.take k) + x ≤ left ∧ m + k = zs.length) zs.length ?_ ?_
  ·exact ⟨0, hn h .mk, left - zs.length, up_self, Nat.le_refl _, zsm, zsm, by omega, by simp [sumN]; omega, by omega⟩
  ·rintro m e h' hks ⟨k, n, x, rfl, hnn, e5, e1, hx, hsum, hk⟩
   simp -dsimp -implicitDefEqProofs only [go_sem, rq1] at hks
   by_cases h2 : (k : Int) < (zs.length : Int)
   ·have h3 : k < zs.length := by omega
    have hst : sumN szIntS (zs.take (k + 1)) = sumN szIntS (zs.take k) + (zs.getD k default).length := sumN_take (f := szIntS) h3
    repeat (first | rw [ko] | rw [kr] | simp -dsimp -implicitDefEqProofs only [go_sem, rq1, hks, e5, e1, h2, h3])
    refine pw_intro (szIntS_pw (hf2 _ (getD_mem h3)) ⟨by omega, by omega⟩) ?_
    rintro _ n2 hn2 ⟨x2, rfl, hx2⟩
    simp only [hn_up] at hn2
    repeat (first | rw [ko] | rw [kr] | simp -dsimp -implicitDefEqProofs only [go_sem, rq1])
    refine gz_dec (fun h4 => ?_) (fun h4 => ?_)
    ·repeat (first | rw [ko] | rw [kr] | simp -dsimp -implicitDefEqProofs only [go_sem])
     exact ⟨(by first | exact le_up (H2.le.refl _) (by omega) | exact le_up (le_up (H2.le.refl _) hnn) (by rw [hn_up]; omega)), ⟨_, rfl⟩, _, rfl, fun hh => by omega⟩
    ·repeat (first | rw [ko] | rw [kr] | simp -dsimp -implicitDefEqProofs only [go_sem, rq1, wrap_succ h3 hf1])
     exact nx_keep (m - 1) (by omega) zsm ⟨k + 1, n2, x2, up_up, by omega, zsm, zsm, by omega, by have := hx2 (by omega); omega, by omega⟩
   ·repeat (first | rw [ko] | rw [kr] | simp -dsimp -implicitDefEqProofs only [go_sem, rq1, hks, e5, e1, h2])
    refine ⟨le_up (H2.le.refl _) hnn, ⟨_, rfl⟩, x, rfl, fun _ => ?_⟩
    rw [List.take_of_length_le (by omega)] at hsum
    omega
theorem eqIntSS_pw {f f' : Adr} {zs : List (List Int)} {h : H2} (hf : fitIntSS zs) : PW Tryz.prog W0 83 [.sl f 1 (rIntSS zs), .sl f' 1 (rIntSS zs)] h (fun y => y = .raw (.bool true)) := by
 obtain ⟨hf1, hf2⟩ := hf
 refine PW.scalar ?_
 refine begins [[0, 1], [0, 1], [], [0, 1], [0, 1, 5], [0, 1, 5], [0, 1, 5], [], []] Tryz.func83 rfl (rs := [.tmp 4]) rfl rfl ?_
 intro wf
 repeat (first | rw [ko] | rw [kr] | simp -dsimp -implicitDefEqProofs only [go_sem, rq1])
 refine lz_keep [0, 1] (fun m e h' => ∃ (k n : Nat), h' = h.up n ∧ hn h .mk ≤ n ∧ look e 5 .mk = .raw (.int .i64 k) ∧ m + k = zs.length) zs.length ?_ ?_
 ·exact ⟨0, hn h .mk, up_self, Nat.le_refl _, zsm, by omega⟩
 ·rintro m e h' hks ⟨k, n, rfl, hnn, e5, hk⟩
  simp -dsimp -implicitDefEqProofs only [go_sem, rq1] at hks
  by_cases h2 : (k : Int) < (zs.length : Int)
  ·have h3 : k < zs.length := by omega
   repeat (first | rw [ko] | rw [kr] | simp -dsimp -implicitDefEqProofs only [go_sem, rq1, hks, e5, h2])
   refine dq_intro [(0, []), (1, []), (2, []), (3, []), (4, []), (5, []), (6, []), (7, []), (8, []), (9, [])] (by kernel_rfl) ?_
   repeat (first | rw [ko] | rw [kr] | simp -dsimp -implicitDefEqProofs only [go_sem, rq1, h3])
   refine pw_intro (eqIntS_pw (hf2 _ (getD_mem h3))) ?_
   rintro _ n2 hn2 rfl
   simp only [hn_up] at hn2
   repeat (first | rw [ko] | rw [kr] | simp -dsimp -implicitDefEqProofs only [go_sem, rq1, wrap_succ h3 hf1])
   exact nx_keep (m - 1) (by omega) zsm ⟨k + 1, n2, up_up, by omega, zsm, by omega⟩
  ·repeat (first | rw [ko] | rw [kr] | simp -dsimp -implicitDefEqProofs only [go_sem, rq1, hks, e5, h2])
   exact ⟨le_up (H2.le.refl _) hnn, ⟨_, rfl⟩, rfl⟩
theorem toIntSS_new {f : Adr} {zs : List (List Int)} {h : H2} (hs : szIntSS zs ≤ 1048576) : NewT Tryz.prog W0 78 [.sl f 1 (rIntSS zs)] h (.l 1 (rIntSS zs)) := by
 unfold szIntSS at hs
 have hE : ∀ a, (eIntS a).length = 1 := fun a => rfl
 refine begins [[0], [0], [0, 3], [0, 3, 4], [0, 3, 4], [0, 3, 4], [3]] Tryz.func78 rfl (rs := [.tmp 2]) rfl rfl ?_
 intro wf
 repeat (first | rw [ko] | rw [kr] | simp -dsimp -implicitDefEqProofs only [go_sem])
 refine make_intro Ai.ty_el25 Ai.ty_zr27 (by decide) ⟨by omega, by simp only [Int.toNat_natCast]; have : Ai.most = 1099511627776 := rfl; omega⟩ ?_
 repeat (first | rw [ko] | rw [kr] | simp -dsimp -implicitDefEqProofs only [go_sem, rq1])
 refine lz_keep [0, 3] (fun m e h' => ∃ (k : Nat) (cs : List X) (bs : List Nat), look e 4 .mk = .raw (.int .i64 k) ∧ m + k = zs.length ∧ hg h' (hn h .mk) .mk = some ⟨1, cs⟩ ∧ cs.length = zs.length * 1 ∧ OTs h' bs (cs.take (k * 1)) (((zs.take k).map eIntS).flatten) ∧ Bl (hn h .mk + 1) (hn h' .mk) bs ∧ h.le h' ∧ hn h .mk < hn h' .mk) zs.length ?_ ?_
 ·exact ⟨0, _, [], zsm, by omega, (by rw [hg_push, hoo]; rfl), by simp [rep_len], by simpa using OTs.nil, Bl.nil, le_push (H2.le.refl _), by rw [hn_push]; omega⟩
 ·rintro m e h' hks ⟨k, cs, bs, e4, hk, hrow, hcs, ho, hbl, hle, hlt⟩
  simp -dsimp -implicitDefEqProofs only [go_sem] at hks
  by_cases h2 : (k : Int) < (zs.length : Int)
  ·have h3 : k < zs.length := by omega
   have hsm : (zs.getD k default).length ≤ sumN szIntS zs := sumN_mem (f := szIntS) (getD_mem h3)
   repeat (first | rw [ko] | rw [kr] | simp -dsimp -implicitDefEqProofs only [go_sem, rq1, hks, e4, h2, h3])
   refine wz_intro (toIntS_new (by omega)) ?_
   rintro y g2 ⟨l2, b2, o1, bl2⟩
   have hy1 := OT.okx o1
   have o2 := OTs.one o1
   have nn2 := l2.1
   have hyl : ([y]).length = 1 := (OTs.len o2).trans (hE _)
   have hyo := OTs.okx o2
   obtain ⟨w1, w2, w3⟩ := wrt_next hcs h3 hyl
   have row2 := (l2.2 (hn h .mk) hlt).trans hrow
   have hi2 : (0 : Int) ≤ (k : Int) ∧ (k : Int) < (zs.length : Int) := by omega
   rw [Nat.mul_one] at w1
   repeat (first | rw [ko] | rw [kr] | simp -dsimp -implicitDefEqProofs only [go_sem, rq1, row2, hi2, hyl, hyo, w1, hy1, wrap_succ h3 (by omega)])
   have hset : ∀ {b : Nat} {kk : OB}, b ≠ hn h .mk → (g2.set (hn h .mk) kk).get b = g2.get b := fun hb => by simp only [H2.set]; rw [if_neg hb]
   refine nx_keep (m - 1) (by omega) zsm ⟨k + 1, _, bs ++ b2, zsm, by omega, (by rw [hg_set, hoo]; rfl), (by rw [← Nat.mul_one k]; exact w2), ?_, ?_, le_set (hle.trans l2) (Nat.le_refl _), by simp -dsimp -implicitDefEqProofs only [go_sem] <;> omega⟩
   ·rw [show cs.take k = cs.take (k * 1) by rw [Nat.mul_one], show cs.drop (k + 1) = cs.drop (k * 1 + 1) by rw [Nat.mul_one]]; rw [w3, flat_next h3]
    refine OTs.append ((OTs.keep ho l2 hbl).frame fun b hb => hset (by have := (hbl.2 b hb).1; omega)) (o2.frame fun b hb => hset (by have := (bl2.2 b hb).1; omega))
   ·rw [hn_set]
    exact hbl.append bl2 (by omega) nn2
  ·repeat (first | rw [ko] | rw [kr] | simp -dsimp -implicitDefEqProofs only [go_sem, rq1, hks, e4, h2])
   have : k = zs.length := by omega
   subst this
   obtain ⟨q1, q2⟩ := OT.full hE hrow hcs ho hbl hlt
   exact ⟨hle, _, q1, q2⟩
structure LMerge where
 a : Int
 b : Int
instance : Inhabited LMerge := ⟨⟨default, default⟩⟩
def eMerge (c : LMerge) : List T := [.v (.int .i64 c.a), .v (.int .i64 c.b)]
def xMerge (F : Nat → Adr) (c : LMerge) : List X := [.raw (.int .i64 c.a), .raw (.int .i64 c.b)]
theorem eMerge_def {c : LMerge} : eMerge c = [.v (.int .i64 c.a), .v (.int .i64 c.b)] := rfl
theorem xMerge_def {F : Nat → Adr} {c : LMerge} : xMerge F c = [.raw (.int .i64 c.a), .raw (.int .i64 c.b)] := rfl
def szMerge (c : LMerge) : Nat := 0
def fitMerge (c : LMerge) : Prop := True
attribute [go_sem] eMerge_def xMerge_def
theorem outMerge {g : H2} {c : LMerge} : OTs g [] [.raw (.int .i64 c.a), .raw (.int .i64 c.b)] (eMerge c) := by
 have := (OTs.cons (OT.raw (v := .int .i64 c.a) rfl) (OTs.cons (OT.raw (v := .int .i64 c.b) rfl) (OTs.nil)) : OTs g _ _ _)
 simpa only [eMerge, List.append_nil, List.nil_append] using this
theorem eqMerge_ok {F F' : Nat → Adr} {c : LMerge} {h : H2} (hf : fitMerge c) : PW Tryz.prog W0 171 [.st (xMerge F c), .st (xMerge F' c)] h (fun y => y = .raw (.bool true)) := by
 unfold fitMerge at hf
 refine PW.scalar ?_
 refine begins [[0, 1], [2, 3], [], [2, 3], [], []] Tryz.func171 rfl (rs := [.tmp 4]) rfl rfl ?_
 intro wf
 repeat (first | rw [ko] | rw [kr] | simp -dsimp -implicitDefEqProofs only [go_sem, rq1])
 exact ⟨zale, ⟨_, rfl⟩, rfl⟩
theorem toMerge_ok {F : Nat → Adr} {c : LMerge} {h : H2} (hs : szMerge c ≤ 1048576) : NewS Tryz.prog W0 169 [.st (xMerge F c)] h (eMerge c) := by
 refine begins [[0], [1, 2], [1, 2, 3], [1, 2, 3], [2, 3]] Tryz.func169 rfl (rs := [.cell 2 169]) rfl rfl ?_
 intro wf
 repeat (first | rw [ko] | rw [kr] | simp -dsimp -implicitDefEqProofs only [go_sem, rq1, rq2, hoo])
 exact ⟨zale, _, [], rfl, outMerge (c := c), Bl.nil⟩
def rMergeS (zs : List LMerge) : List (List T) := zs.map eMerge
theorem rMergeS_len {zs : List LMerge} : (rMergeS zs).length = zs.length := by simp [rMergeS]
theorem rMergeS_el {zs : List LMerge} {i : Nat} (hi : i < zs.length) : el (rMergeS zs) i = eMerge (zs.getD i default) := el_map hi
attribute [go_sem] rMergeS_len rMergeS_el
def szMergeS (zs : List LMerge) : Nat := zs.length + sumN szMerge zs
def fitMergeS (zs : List LMerge) : Prop := zs.length ≤ 9223372036854775807 ∧ ∀ x ∈ zs, fitMerge x
theorem szMergeS_pw {f : Adr} {zs : List LMerge} {left : Int} {h : H2} (hf : fitMergeS zs) (hl : 0 ≤ left ∧ left ≤ 1048576) : PW Tryz.prog W0 71 [.sl f 2 (rMergeS zs), .raw (.int .i64 left)] h (fun y => ∃ k : Int, y = .raw (.int .i64 k) ∧ (0 ≤ k → (szMergeS zs : Int) + k ≤ left)) := by
 obtain ⟨hf1, hf2⟩ := hf
 unfold szMergeS
 have hw : IntKind.i64.wrap (left - zs.length) = left - zs.length := by rw [wrap_i64] <;> omega
 refine PW.scalar ?_
 refine begins [[0, 1], [0, 1], [1], [], [1]] Tryz.func71 rfl (rs := [.tmp 4]) rfl rfl ?_
 intro wf
 repeat (first | rw [ko] | rw [kr] | simp -dsimp -implicitDefEqProofs only [go_sem, rq1, hw])
 refine gz_dec (fun h1 => ?_) (fun h1 => ?_)
 ·repeat (first | rw [ko] | rw [kr] | simp -dsimp -implicitDefEqProofs only [go_sem])
  exact ⟨H2.le.refl _, ⟨_, rfl⟩, _, rfl, fun hh => by omega⟩
 ·repeat (first | rw [ko] | rw [kr] | simp -dsimp -implicitDefEqProofs only [go_sem, rq1])
  have h0 : ∀ l : List LMerge, sumN szMerge l = 0 := fun l => by
   induction l with
   | nil => rfl
   | cons a l ih => simp only [sumN, szMerge, ih]
  exact ⟨H2.le.refl _, ⟨_, rfl⟩, _, rfl, fun hh => by rw [h0]; omega⟩
theorem eqMergeS_pw {f f' : Adr} {zs : List LMerge} {h : H2} (hf : fitMergeS zs) : PW Tryz.prog W0 82 [.sl f 2 (rMergeS zs), .sl f' 2 (rMergeS zs)] h (fun y => y = .raw (.bool true)) := by
 obtain ⟨hf1, hf2⟩ := hf
 refine PW.scalar ?_
 refine begins [[0, 1], [0, 1], [], [0, 1], [0, 1, 5], [0, 1, 5], [0, 1, 5], [], []] Tryz.func82 rfl (rs := [.tmp 4]) rfl rfl ?_
 intro wf
 repeat (first | rw [ko] | rw [kr] | simp -dsimp -implicitDefEqProofs only [go_sem, rq1])
 refine lz_keep [0, 1] (fun m e h' => ∃ (k n : Nat), h' = h.up n ∧ hn h .mk ≤ n ∧ look e 5 .mk = .raw (.int .i64 k) ∧ m + k = zs.length) zs.length ?_ ?_
 ·exact ⟨0, hn h .mk, up_self, Nat.le_refl _, zsm, by omega⟩
 ·rintro m e h' hks ⟨k, n, rfl, hnn, e5, hk⟩
  simp -dsimp -implicitDefEqProofs only [go_sem, rq1] at hks
  by_cases h2 : (k : Int) < (zs.length : Int)
  ·have h3 : k < zs.length := by omega
   repeat (first | rw [ko] | rw [kr] | simp -dsimp -implicitDefEqProofs only [go_sem, rq1, hks, e5, h2])
   refine dq_intro [(0, []), (1, []), (2, []), (3, []), (4, []), (5, []), (6, []), (7, []), (8, []), (9, [])] (by kernel_rfl) ?_
   repeat (first | rw [ko] | rw [kr] | simp -dsimp -implicitDefEqProofs only [go_sem, rq1, rq2, rq3, h3])
   refine pw_intro (eqMerge_ok (F := under (under f k)) (F' := under (under f' k)) (c := zs.getD k default) (hf2 _ (getD_mem h3))) ?_
   rintro _ n2 hn2 rfl
   simp only [hn_up] at hn2
   repeat (first | rw [ko] | rw [kr] | simp -dsimp -implicitDefEqProofs only [go_sem, rq1, wrap_succ h3 hf1])
   exact nx_keep (m - 1) (by omega) zsm ⟨k + 1, n2, up_up, by omega, zsm, by omega⟩
  ·repeat (first | rw [ko] | rw [kr] | simp -dsimp -implicitDefEqProofs only [go_sem, rq1, hks, e5, h2])
   exact ⟨le_up (H2.le.refl _) hnn, ⟨_, rfl⟩, rfl⟩
theorem toMergeS_new {f : Adr} {zs : List LMerge} {h : H2} (hs : szMergeS zs ≤ 1048576) : NewT Tryz.prog W0 77 [.sl f 2 (rMergeS zs)] h (.l 2 (rMergeS zs)) := by
 unfold szMergeS at hs
 have hE : ∀ a, (eMerge a).length = 2 := fun a => rfl
 refine begins [[0], [0], [0, 3], [0, 3, 4], [0, 3, 4], [0, 3, 4], [3]] Tryz.func77 rfl (rs := [.tmp 2]) rfl rfl ?_
 intro wf
 repeat (first | rw [ko] | rw [kr] | simp -dsimp -implicitDefEqProofs only [go_sem])
 refine make_intro Ai.ty_el24 Ai.ty_zr169 (by decide) ⟨by omega, by simp only [Int.toNat_natCast]; have : Ai.most = 1099511627776 := rfl; omega⟩ ?_
 repeat (first | rw [ko] | rw [kr] | simp -dsimp -implicitDefEqProofs only [go_sem, rq1])
 refine lz_keep [0, 3] (fun m e h' => ∃ (k : Nat) (cs : List X) (bs : List Nat), look e 4 .mk = .raw (.int .i64 k) ∧ m + k = zs.length ∧ hg h' (hn h .mk) .mk = some ⟨2, cs⟩ ∧ cs.length = zs.length * 2 ∧ OTs h' bs (cs.take (k * 2)) (((zs.take k).map eMerge).flatten) ∧ Bl (hn h .mk + 1) (hn h' .mk) bs ∧ h.le h' ∧ hn h .mk < hn h' .mk) zs.length ?_ ?_
 ·exact ⟨0, _, [], zsm, by omega, (by rw [hg_push, hoo]; rfl), by simp [rep_len], by simpa using OTs.nil, Bl.nil, le_push (H2.le.refl _), by rw [hn_push]; omega⟩
 ·rintro m e h' hks ⟨k, cs, bs, e4, hk, hrow, hcs, ho, hbl, hle, hlt⟩
  simp -dsimp -implicitDefEqProofs only [go_sem] at hks
  by_cases h2 : (k : Int) < (zs.length : Int)
  ·have h3 : k < zs.length := by omega
   have hsm : szMerge (zs.getD k default) ≤ sumN szMerge zs := sumN_mem (f := szMerge) (getD_mem h3)
   repeat (first | rw [ko] | rw [kr] | simp -dsimp -implicitDefEqProofs only [go_sem, rq1, rq2, rq3, hks, e4, h2, h3])
   refine wz_intro (toMerge_ok (F := under (under f k)) (c := zs.getD k default) (by omega)) ?_
   rintro _ g2 ⟨l2, ys, b2, rfl, o2, bl2⟩
   have nn2 := l2.1
   have hyl : (ys).length = 2 := (OTs.len o2).trans (hE _)
   have hyo := OTs.okx o2
   obtain ⟨w1, w2, w3⟩ := wrt_next hcs h3 hyl
   have row2 := (l2.2 (hn h .mk) hlt).trans hrow
   have hi2 : (0 : Int) ≤ (k : Int) ∧ (k : Int) < (zs.length : Int) := by omega
   repeat (first | rw [ko] | rw [kr] | simp -dsimp -implicitDefEqProofs only [go_sem, rq1, row2, hi2, hyl, hyo, w1, wrap_succ h3 (by omega)])
   have hset : ∀ {b : Nat} {kk : OB}, b ≠ hn h .mk → (g2.set (hn h .mk) kk).get b = g2.get b := fun hb => by simp only [H2.set]; rw [if_neg hb]
   refine nx_keep (m - 1) (by omega) zsm ⟨k + 1, _, bs ++ b2, zsm, by omega, (by rw [hg_set, hoo]; rfl), w2, ?_, ?_, le_set (hle.trans l2) (Nat.le_refl _), by simp -dsimp -implicitDefEqProofs only [go_sem] <;> omega⟩
   ·rw [w3, flat_next h3]
    refine OTs.append ((OTs.keep ho l2 hbl).frame fun b hb => hset (by have := (hbl.2 b hb).1; omega)) (o2.frame fun b hb => hset (by have := (bl2.2 b hb).1; omega))
   ·rw [hn_set]
    exact hbl.append bl2 (by omega) nn2
  ·repeat (first | rw [ko] | rw [kr] | simp -dsimp -implicitDefEqProofs only [go_sem, rq1, hks, e4, h2])
   have : k = zs.length := by omega
   subst this
   obtain ⟨q1, q2⟩ := OT.full hE hrow hcs ho hbl hlt
   exact ⟨hle, _, q1, q2⟩
structure LMatrix where
 width : Int
 rows : List (List Int)
 scales : List (List Int)
 mul : Int
 shift : Int
instance : Inhabited LMatrix := ⟨⟨default, default, default, default, default⟩⟩
def eMatrix (c : LMatrix) : List T := [.v (.int .i64 c.width), .l 1 (rIntSS c.rows), .l 1 (rIntSS c.scales), .v (.int .i64 c.mul), .v (.int .i64 c.shift)]
def xMatrix (F : Nat → Adr) (c : LMatrix) : List X := [.raw (.int .i64 c.width), .sl (F 1) 1 (rIntSS c.rows), .sl (F 2) 1 (rIntSS c.scales), .raw (.int .i64 c.mul), .raw (.int .i64 c.shift)]
theorem eMatrix_def {c : LMatrix} : eMatrix c = [.v (.int .i64 c.width), .l 1 (rIntSS c.rows), .l 1 (rIntSS c.scales), .v (.int .i64 c.mul), .v (.int .i64 c.shift)] := rfl
theorem xMatrix_def {F : Nat → Adr} {c : LMatrix} : xMatrix F c = [.raw (.int .i64 c.width), .sl (F 1) 1 (rIntSS c.rows), .sl (F 2) 1 (rIntSS c.scales), .raw (.int .i64 c.mul), .raw (.int .i64 c.shift)] := rfl
def szMatrix (c : LMatrix) : Nat := szIntSS c.rows + szIntSS c.scales
def fitMatrix (c : LMatrix) : Prop := fitIntSS c.rows ∧ fitIntSS c.scales
attribute [go_sem] eMatrix_def xMatrix_def
theorem invMatrix {g : H2} {bs : List Nat} {ys : List X} {c : LMatrix} (o : OTs g bs ys (eMatrix c)) : ∃ b1 s1 b2 s2, ys = [.raw (.int .i64 c.width), s1, s2, .raw (.int .i64 c.mul), .raw (.int .i64 c.shift)] ∧ bs = b1 ++ b2 ∧ OT g b1 s1 (.l 1 (rIntSS c.rows)) ∧ OT g b2 s2 (.l 1 (rIntSS c.scales)) := by
 unfold eMatrix at o
 obtain ⟨ys0, rfl, o0⟩ := OTs.headv o
 obtain ⟨b1, bs1, s1, ys1, rfl, rfl, a1, o1⟩ := OTs.head o0
 obtain ⟨b2, bs2, s2, ys2, rfl, rfl, a2, o2⟩ := OTs.head o1
 obtain ⟨ys3, rfl, o3⟩ := OTs.headv o2
 obtain ⟨ys4, rfl, o4⟩ := OTs.headv o3
 obtain ⟨rfl, rfl⟩ := OTs.tail0 o4
 exact ⟨_, _, _, _, rfl, by simp only [List.append_nil], a1, a2⟩
theorem outMatrix {g : H2} {c : LMatrix} {b1 b2 : List Nat} {s1 s2 : X} (a1 : OT g b1 s1 (.l 1 (rIntSS c.rows))) (a2 : OT g b2 s2 (.l 1 (rIntSS c.scales))) : OTs g (b1 ++ b2) [.raw (.int .i64 c.width), s1, s2, .raw (.int .i64 c.mul), .raw (.int .i64 c.shift)] (eMatrix c) := by
 have := OTs.cons (OT.raw (v := .int .i64 c.width) rfl) (OTs.cons a1 (OTs.cons a2 (OTs.cons (OT.raw (v := .int .i64 c.mul) rfl) (OTs.cons (OT.raw (v := .int .i64 c.shift) rfl) (OTs.nil)))))
 simpa only [eMatrix, List.append_nil, List.nil_append] using this
theorem szMatrix_ok {F : Nat → Adr} {c : LMatrix} {left : Int} {h : H2} (hf : fitMatrix c) (hl : 0 ≤ left ∧ left ≤ 1048576) : PW Tryz.prog W0 75 [.st (xMatrix F c), .raw (.int .i64 left)] h (fun y => ∃ k : Int, y = .raw (.int .i64 k) ∧ (0 ≤ k → (szMatrix c : Int) + k ≤ left)) := by
 unfold fitMatrix at hf
 refine PW.scalar ?_
 refine begins [[0, 1], [1, 2], [1, 2], [], [1, 2], [1], [], [1]] Tryz.func75 rfl (rs := [.tmp 4]) rfl rfl ?_
 intro wf
 repeat (first | rw [ko] | rw [kr] | simp -dsimp -implicitDefEqProofs only [go_sem, rq1])
 refine pw_intro (szIntSS_pw  hf.1 ⟨by omega, by omega⟩) ?_
 rintro _ n1 hn1 ⟨k1, rfl, hk1⟩
 repeat (first | rw [ko] | rw [kr] | simp -dsimp -implicitDefEqProofs only [go_sem, rq1])
 refine gz_dec (fun q1 => ?_) (fun q1 => ?_)
 ·repeat (first | rw [ko] | rw [kr] | simp -dsimp -implicitDefEqProofs only [go_sem])
  exact ⟨zale, ⟨_, rfl⟩, _, rfl, fun hh => by omega⟩
 repeat (first | rw [ko] | rw [kr] | simp -dsimp -implicitDefEqProofs only [go_sem, rq1])
 refine pw_intro (szIntSS_pw  hf.2 ⟨by omega, by omega⟩) ?_
 rintro _ n2 hn2 ⟨k2, rfl, hk2⟩
 repeat (first | rw [ko] | rw [kr] | simp -dsimp -implicitDefEqProofs only [go_sem])
 refine gz_dec (fun q2 => ?_) (fun q2 => ?_)
 ·repeat (first | rw [ko] | rw [kr] | simp -dsimp -implicitDefEqProofs only [go_sem])
  exact ⟨zale, ⟨_, rfl⟩, _, rfl, fun hh => by omega⟩
 repeat (first | rw [ko] | rw [kr] | simp -dsimp -implicitDefEqProofs only [go_sem, rq1])
 exact ⟨zale, ⟨_, rfl⟩, _, rfl, fun hh => by unfold szMatrix; omega⟩
theorem eqMatrix_ok {F F' : Nat → Adr} {c : LMatrix} {h : H2} (hf : fitMatrix c) : PW Tryz.prog W0 85 [.st (xMatrix F c), .st (xMatrix F' c)] h (fun y => y = .raw (.bool true)) := by
 unfold fitMatrix at hf
 refine PW.scalar ?_
 refine begins [[0, 1], [2, 3], [], [2, 3], [], [2, 3], [], [2, 3], [], [2, 3], [], []] Tryz.func85 rfl (rs := [.tmp 4]) rfl rfl ?_
 intro wf
 repeat (first | rw [ko] | rw [kr] | simp -dsimp -implicitDefEqProofs only [go_sem, rq1])
 refine pw_intro (eqIntSS_pw  hf.1) ?_
 rintro _ n1 hn1 rfl
 repeat (first | rw [ko] | rw [kr] | simp -dsimp -implicitDefEqProofs only [go_sem, rq1])
 refine pw_intro (eqIntSS_pw  hf.2) ?_
 rintro _ n2 hn2 rfl
 repeat (first | rw [ko] | rw [kr] | simp -dsimp -implicitDefEqProofs only [go_sem, rq1])
 exact ⟨zale, ⟨_, rfl⟩, rfl⟩
theorem toMatrix_ok {F : Nat → Adr} {c : LMatrix} {h : H2} (hs : szMatrix c ≤ 1048576) : NewS Tryz.prog W0 80 [.st (xMatrix F c)] h (eMatrix c) := by
 unfold szMatrix at hs
 refine begins [[0], [1, 2], [1, 2, 3], [1, 2, 3], [1, 2, 3], [1, 2, 3], [1, 2, 3], [2, 3]] Tryz.func80 rfl (rs := [.cell 2 29]) rfl rfl ?_
 intro wf
 repeat (first | rw [ko] | rw [kr] | simp -dsimp -implicitDefEqProofs only [go_sem, rq1])
 refine wz_intro (toIntSS_new  (by omega)) ?_
 rintro s1 g1 ⟨l1, b1, o1, bl1⟩
 have ce1 := OT.cell o1
 have n1 := l1.n
 have a10 := l1.2 (hn h .mk) (by simp only [hn_push, hn_set]; omega)
 have a11 := l1.2 (hn h .mk + 1) (by simp only [hn_push, hn_set]; omega)
 have a12 := l1.2 (hn h .mk + 1 + 1) (by simp only [hn_push, hn_set]; omega)
 simp -dsimp -implicitDefEqProofs only [go_sem, hoo] at n1 a10 a11 a12
 have L1 : h.le g1 := H2.le.trans zale l1
 repeat (first | rw [ko] | rw [kr] | simp -dsimp -implicitDefEqProofs only [go_sem, rq1, a10, a12, ce1])
 refine wz_intro (toIntSS_new  (by omega)) ?_
 rintro s2 g2 ⟨l2, b2, o2, bl2⟩
 have ce2 := OT.cell o2
 have n2 := l2.n
 have a20 := l2.2 (hn h .mk) (by simp only [hn_set]; omega)
 have a21 := l2.2 (hn h .mk + 1) (by simp only [hn_set]; omega)
 have a22 := l2.2 (hn h .mk + 1 + 1) (by simp only [hn_set]; omega)
 simp -dsimp -implicitDefEqProofs only [go_sem, a10, a11, hoo] at n2 a20 a21 a22
 have L2 : h.le g2 := H2.le.trans zale l2
 repeat (first | rw [ko] | rw [kr] | simp -dsimp -implicitDefEqProofs only [go_sem, rq1, rq2, a20, a21, a22, ce1, ce2])
 refine ⟨zale, _, b1 ++ b2, rfl, outMatrix (c := c) ?_ ?_, ?_⟩
 ·refine OT.frame o1 fun b hb => ?_
  have hbl := bl1.2 b (hb)
  simp only [hn_push, hn_set] at hbl
  simp only [H2.set]
  rw [if_neg (by omega), if_neg (by omega)]
  rw [show g2.get b = _ from l2.2 b (by simp only [hn_set]; omega)]
  simp only [hg, H2.set]
  rw [if_neg (by omega)]
 ·refine OT.frame o2 fun b hb => ?_
  have hbl := bl2.2 b (hb)
  simp only [hn_set] at hbl
  simp only [H2.set]
  rw [if_neg (by omega), if_neg (by omega)]
 ·simp only [hn_set]
  have m1 := bl1
  simp only [hn_push, hn_set] at m1
  have m2 := bl2
  simp only [hn_set] at m2
  have := ((Bl.append m1 m2 (by omega) (by omega))).wide (N' := hn h .mk) (by omega) (Nat.le_refl _)
  simpa only [List.append_assoc] using this
structure LTurns where
 cos : List (List Int)
 sin : List (List Int)
instance : Inhabited LTurns := ⟨⟨default, default⟩⟩
def eTurns (c : LTurns) : List T := [.l 1 (rIntSS c.cos), .l 1 (rIntSS c.sin)]
def xTurns (F : Nat → Adr) (c : LTurns) : List X := [.sl (F 0) 1 (rIntSS c.cos), .sl (F 1) 1 (rIntSS c.sin)]
theorem xTurns_def {F : Nat → Adr} {c : LTurns} : xTurns F c = [.sl (F 0) 1 (rIntSS c.cos), .sl (F 1) 1 (rIntSS c.sin)] := rfl
def szTurns (c : LTurns) : Nat := szIntSS c.cos + szIntSS c.sin
def fitTurns (c : LTurns) : Prop := fitIntSS c.cos ∧ fitIntSS c.sin
attribute [go_sem] xTurns_def
theorem invTurns {g : H2} {bs : List Nat} {ys : List X} {c : LTurns} (o : OTs g bs ys (eTurns c)) : ∃ b0 s0 b1 s1, ys = [s0, s1] ∧ bs = b0 ++ b1 ∧ OT g b0 s0 (.l 1 (rIntSS c.cos)) ∧ OT g b1 s1 (.l 1 (rIntSS c.sin)) := by
 unfold eTurns at o
 obtain ⟨b0, bs0, s0, ys0, rfl, rfl, a0, o0⟩ := OTs.head o
 obtain ⟨b1, bs1, s1, ys1, rfl, rfl, a1, o1⟩ := OTs.head o0
 obtain ⟨rfl, rfl⟩ := OTs.tail0 o1
 exact ⟨_, _, _, _, rfl, by simp only [List.append_nil], a0, a1⟩
theorem outTurns {g : H2} {c : LTurns} {b0 b1 : List Nat} {s0 s1 : X} (a0 : OT g b0 s0 (.l 1 (rIntSS c.cos))) (a1 : OT g b1 s1 (.l 1 (rIntSS c.sin))) : OTs g (b0 ++ b1) [s0, s1] (eTurns c) := by
 have := OTs.cons a0 (OTs.cons a1 (OTs.nil))
 simpa only [eTurns, List.append_nil, List.nil_append] using this
theorem szTurns_ok {F : Nat → Adr} {c : LTurns} {left : Int} {h : H2} (hf : fitTurns c) (hl : 0 ≤ left ∧ left ≤ 1048576) : PW Tryz.prog W0 76 [.st (xTurns F c), .raw (.int .i64 left)] h (fun y => ∃ k : Int, y = .raw (.int .i64 k) ∧ (0 ≤ k → (szTurns c : Int) + k ≤ left)) := by
 unfold fitTurns at hf
 refine PW.scalar ?_
 refine begins [[0, 1], [1, 2], [1, 2], [], [1, 2], [1], [], [1]] Tryz.func76 rfl (rs := [.tmp 4]) rfl rfl ?_
 intro wf
 repeat (first | rw [ko] | rw [kr] | simp -dsimp -implicitDefEqProofs only [go_sem, rq1])
 refine pw_intro (szIntSS_pw  hf.1 ⟨by omega, by omega⟩) ?_
 rintro _ n0 hn0 ⟨k0, rfl, hk0⟩
 repeat (first | rw [ko] | rw [kr] | simp -dsimp -implicitDefEqProofs only [go_sem, rq1])
 refine gz_dec (fun q0 => ?_) (fun q0 => ?_)
 ·repeat (first | rw [ko] | rw [kr] | simp -dsimp -implicitDefEqProofs only [go_sem])
  exact ⟨zale, ⟨_, rfl⟩, _, rfl, fun hh => by omega⟩
 repeat (first | rw [ko] | rw [kr] | simp -dsimp -implicitDefEqProofs only [go_sem, rq1])
 refine pw_intro (szIntSS_pw  hf.2 ⟨by omega, by omega⟩) ?_
 rintro _ n1 hn1 ⟨k1, rfl, hk1⟩
 repeat (first | rw [ko] | rw [kr] | simp -dsimp -implicitDefEqProofs only [go_sem])
 refine gz_dec (fun q1 => ?_) (fun q1 => ?_)
 ·repeat (first | rw [ko] | rw [kr] | simp -dsimp -implicitDefEqProofs only [go_sem])
  exact ⟨zale, ⟨_, rfl⟩, _, rfl, fun hh => by omega⟩
 repeat (first | rw [ko] | rw [kr] | simp -dsimp -implicitDefEqProofs only [go_sem, rq1])
 exact ⟨zale, ⟨_, rfl⟩, _, rfl, fun hh => by unfold szTurns; omega⟩
theorem eqTurns_ok {F F' : Nat → Adr} {c : LTurns} {h : H2} (hf : fitTurns c) : PW Tryz.prog W0 86 [.st (xTurns F c), .st (xTurns F' c)] h (fun y => y = .raw (.bool true)) := by
 unfold fitTurns at hf
 refine PW.scalar ?_
 refine begins [[0, 1], [2, 3], [], [2, 3], [], []] Tryz.func86 rfl (rs := [.tmp 4]) rfl rfl ?_
 intro wf
 repeat (first | rw [ko] | rw [kr] | simp -dsimp -implicitDefEqProofs only [go_sem])
 refine pw_intro (eqIntSS_pw  hf.1) ?_
 rintro _ n0 hn0 rfl
 repeat (first | rw [ko] | rw [kr] | simp -dsimp -implicitDefEqProofs only [go_sem, rq1])
 refine pw_intro (eqIntSS_pw  hf.2) ?_
 rintro _ n1 hn1 rfl
 repeat (first | rw [ko] | rw [kr] | simp -dsimp -implicitDefEqProofs only [go_sem])
 exact ⟨zale, ⟨_, rfl⟩, rfl⟩
theorem toTurns_ok {F : Nat → Adr} {c : LTurns} {h : H2} (hs : szTurns c ≤ 1048576) : NewS Tryz.prog W0 81 [.st (xTurns F c)] h (eTurns c) := by
 unfold szTurns at hs
 refine begins [[0], [1, 2], [1, 2, 3], [1, 2, 3], [2, 3]] Tryz.func81 rfl (rs := [.cell 2 31]) rfl rfl ?_
 intro wf
 repeat (first | rw [ko] | rw [kr] | simp -dsimp -implicitDefEqProofs only [go_sem])
 refine wz_intro (toIntSS_new  (by omega)) ?_
 rintro s0 g0 ⟨l0, b0, o0, bl0⟩
 have ce0 := OT.cell o0
 have n0 := l0.n
 have a00 := l0.2 (hn h .mk) (by simp only [hn_push]; omega)
 have a01 := l0.2 (hn h .mk + 1) (by simp only [hn_push]; omega)
 have a02 := l0.2 (hn h .mk + 1 + 1) (by simp only [hn_push]; omega)
 simp -dsimp -implicitDefEqProofs only [go_sem, hoo] at n0 a00 a01 a02
 have L0 : h.le g0 := H2.le.trans zale l0
 repeat (first | rw [ko] | rw [kr] | simp -dsimp -implicitDefEqProofs only [go_sem, rq1, a00, a02, ce0])
 refine wz_intro (toIntSS_new  (by omega)) ?_
 rintro s1 g1 ⟨l1, b1, o1, bl1⟩
 have ce1 := OT.cell o1
 have n1 := l1.n
 have a10 := l1.2 (hn h .mk) (by simp only [hn_set]; omega)
 have a11 := l1.2 (hn h .mk + 1) (by simp only [hn_set]; omega)
 have a12 := l1.2 (hn h .mk + 1 + 1) (by simp only [hn_set]; omega)
 simp -dsimp -implicitDefEqProofs only [go_sem, a00, a01, hoo] at n1 a10 a11 a12
 have L1 : h.le g1 := H2.le.trans zale l1
 repeat (first | rw [ko] | rw [kr] | simp -dsimp -implicitDefEqProofs only [go_sem, rq1, rq2, a11, a12, ce0, ce1])
 refine ⟨zale, _, b0 ++ b1, rfl, outTurns (c := c) ?_ ?_, ?_⟩
 ·refine OT.frame o0 fun b hb => ?_
  have hbl := bl0.2 b (hb)
  simp only [hn_push] at hbl
  simp only [H2.set]
  rw [if_neg (by omega), if_neg (by omega)]
  rw [show g1.get b = _ from l1.2 b (by simp only [hn_set]; omega)]
  simp only [hg, H2.set]
  rw [if_neg (by omega)]
 ·refine OT.frame o1 fun b hb => ?_
  have hbl := bl1.2 b (hb)
  simp only [hn_set] at hbl
  simp only [H2.set]
  rw [if_neg (by omega), if_neg (by omega)]
 ·simp only [hn_set]
  have m0 := bl0
  simp only [hn_push] at m0
  have m1 := bl1
  simp only [hn_set] at m1
  have := ((Bl.append m0 m1 (by omega) (by omega))).wide (N' := hn h .mk) (by omega) (Nat.le_refl _)
  simpa only [List.append_assoc] using this
end Go.Bi
end
section
set_option maxRecDepth 20000
namespace Go.Bi
open Go.Proofs
open Go.Ai (wrap_i64 wrap_u8)
variable {W0 : World}
structure LLayer where
 gain1 : List Int
 q : LMatrix
 k : LMatrix
 v : LMatrix
 o : LMatrix
 gain2 : List Int
 up : LMatrix
 down : LMatrix
instance : Inhabited LLayer := ⟨⟨default, default, default, default, default, default, default, default⟩⟩
def eLayer (c : LLayer) : List T := [.l 1 (ints c.gain1), .v (.int .i64 c.q.width), .l 1 (rIntSS c.q.rows), .l 1 (rIntSS c.q.scales), .v (.int .i64 c.q.mul), .v (.int .i64 c.q.shift), .v (.int .i64 c.k.width), .l 1 (rIntSS c.k.rows), .l 1 (rIntSS c.k.scales), .v (.int .i64 c.k.mul), .v (.int .i64 c.k.shift), .v (.int .i64 c.v.width), .l 1 (rIntSS c.v.rows), .l 1 (rIntSS c.v.scales), .v (.int .i64 c.v.mul), .v (.int .i64 c.v.shift), .v (.int .i64 c.o.width), .l 1 (rIntSS c.o.rows), .l 1 (rIntSS c.o.scales), .v (.int .i64 c.o.mul), .v (.int .i64 c.o.shift), .l 1 (ints c.gain2), .v (.int .i64 c.up.width), .l 1 (rIntSS c.up.rows), .l 1 (rIntSS c.up.scales), .v (.int .i64 c.up.mul), .v (.int .i64 c.up.shift), .v (.int .i64 c.down.width), .l 1 (rIntSS c.down.rows), .l 1 (rIntSS c.down.scales), .v (.int .i64 c.down.mul), .v (.int .i64 c.down.shift)]
def xLayer (F : Nat → Adr) (c : LLayer) : List X := [.sl (F 0) 1 (ints c.gain1), .raw (.int .i64 c.q.width), .sl (F 2) 1 (rIntSS c.q.rows), .sl (F 3) 1 (rIntSS c.q.scales), .raw (.int .i64 c.q.mul), .raw (.int .i64 c.q.shift), .raw (.int .i64 c.k.width), .sl (F 7) 1 (rIntSS c.k.rows), .sl (F 8) 1 (rIntSS c.k.scales), .raw (.int .i64 c.k.mul), .raw (.int .i64 c.k.shift), .raw (.int .i64 c.v.width), .sl (F 12) 1 (rIntSS c.v.rows), .sl (F 13) 1 (rIntSS c.v.scales), .raw (.int .i64 c.v.mul), .raw (.int .i64 c.v.shift), .raw (.int .i64 c.o.width), .sl (F 17) 1 (rIntSS c.o.rows), .sl (F 18) 1 (rIntSS c.o.scales), .raw (.int .i64 c.o.mul), .raw (.int .i64 c.o.shift), .sl (F 21) 1 (ints c.gain2), .raw (.int .i64 c.up.width), .sl (F 23) 1 (rIntSS c.up.rows), .sl (F 24) 1 (rIntSS c.up.scales), .raw (.int .i64 c.up.mul), .raw (.int .i64 c.up.shift), .raw (.int .i64 c.down.width), .sl (F 28) 1 (rIntSS c.down.rows), .sl (F 29) 1 (rIntSS c.down.scales), .raw (.int .i64 c.down.mul), .raw (.int .i64 c.down.shift)]
theorem eLayer_def {c : LLayer} : eLayer c = [.l 1 (ints c.gain1), .v (.int .i64 c.q.width), .l 1 (rIntSS c.q.rows), .l 1 (rIntSS c.q.scales), .v (.int .i64 c.q.mul), .v (.int .i64 c.q.shift), .v (.int .i64 c.k.width), .l 1 (rIntSS c.k.rows), .l 1 (rIntSS c.k.scales), .v (.int .i64 c.k.mul), .v (.int .i64 c.k.shift), .v (.int .i64 c.v.width), .l 1 (rIntSS c.v.rows), .l 1 (rIntSS c.v.scales), .v (.int .i64 c.v.mul), .v (.int .i64 c.v.shift), .v (.int .i64 c.o.width), .l 1 (rIntSS c.o.rows), .l 1 (rIntSS c.o.scales), .v (.int .i64 c.o.mul), .v (.int .i64 c.o.shift), .l 1 (ints c.gain2), .v (.int .i64 c.up.width), .l 1 (rIntSS c.up.rows), .l 1 (rIntSS c.up.scales), .v (.int .i64 c.up.mul), .v (.int .i64 c.up.shift), .v (.int .i64 c.down.width), .l 1 (rIntSS c.down.rows), .l 1 (rIntSS c.down.scales), .v (.int .i64 c.down.mul), .v (.int .i64 c.down.shift)] := rfl
theorem xLayer_def {F : Nat → Adr} {c : LLayer} : xLayer F c = [.sl (F 0) 1 (ints c.gain1), .raw (.int .i64 c.q.width), .sl (F 2) 1 (rIntSS c.q.rows), .sl (F 3) 1 (rIntSS c.q.scales), .raw (.int .i64 c.q.mul), .raw (.int .i64 c.q.shift), .raw (.int .i64 c.k.width), .sl (F 7) 1 (rIntSS c.k.rows), .sl (F 8) 1 (rIntSS c.k.scales), .raw (.int .i64 c.k.mul), .raw (.int .i64 c.k.shift), .raw (.int .i64 c.v.width), .sl (F 12) 1 (rIntSS c.v.rows), .sl (F 13) 1 (rIntSS c.v.scales), .raw (.int .i64 c.v.mul), .raw (.int .i64 c.v.shift), .raw (.int .i64 c.o.width), .sl (F 17) 1 (rIntSS c.o.rows), .sl (F 18) 1 (rIntSS c.o.scales), .raw (.int .i64 c.o.mul), .raw (.int .i64 c.o.shift), .sl (F 21) 1 (ints c.gain2), .raw (.int .i64 c.up.width), .sl (F 23) 1 (rIntSS c.up.rows), .sl (F 24) 1 (rIntSS c.up.scales), .raw (.int .i64 c.up.mul), .raw (.int .i64 c.up.shift), .raw (.int .i64 c.down.width), .sl (F 28) 1 (rIntSS c.down.rows), .sl (F 29) 1 (rIntSS c.down.scales), .raw (.int .i64 c.down.mul), .raw (.int .i64 c.down.shift)] := rfl
def szLayer (c : LLayer) : Nat := c.gain1.length + szMatrix c.q + szMatrix c.k + szMatrix c.v + szMatrix c.o + c.gain2.length + szMatrix c.up + szMatrix c.down
def fitLayer (c : LLayer) : Prop := c.gain1.length ≤ 9223372036854775807 ∧ fitMatrix c.q ∧ fitMatrix c.k ∧ fitMatrix c.v ∧ fitMatrix c.o ∧ c.gain2.length ≤ 9223372036854775807 ∧ fitMatrix c.up ∧ fitMatrix c.down
attribute [go_sem] eLayer_def xLayer_def
theorem outLayer {g : H2} {c : LLayer} {b0 b2 b3 b7 b8 b12 b13 b17 b18 b21 b23 b24 b28 b29 : List Nat} {s0 s2 s3 s7 s8 s12 s13 s17 s18 s21 s23 s24 s28 s29 : X} (a0 : OT g b0 s0 (.l 1 (ints c.gain1))) (a2 : OT g b2 s2 (.l 1 (rIntSS c.q.rows))) (a3 : OT g b3 s3 (.l 1 (rIntSS c.q.scales))) (a7 : OT g b7 s7 (.l 1 (rIntSS c.k.rows))) (a8 : OT g b8 s8 (.l 1 (rIntSS c.k.scales))) (a12 : OT g b12 s12 (.l 1 (rIntSS c.v.rows))) (a13 : OT g b13 s13 (.l 1 (rIntSS c.v.scales))) (a17 : OT g b17 s17 (.l 1 (rIntSS c.o.rows))) (a18 : OT g b18 s18 (.l 1 (rIntSS c.o.scales))) (a21 : OT g b21 s21 (.l 1 (ints c.gain2))) (a23 : OT g b23 s23 (.l 1 (rIntSS c.up.rows))) (a24 : OT g b24 s24 (.l 1 (rIntSS c.up.scales))) (a28 : OT g b28 s28 (.l 1 (rIntSS c.down.rows))) (a29 : OT g b29 s29 (.l 1 (rIntSS c.down.scales))) : OTs g (b0 ++ (b2 ++ (b3 ++ (b7 ++ (b8 ++ (b12 ++ (b13 ++ (b17 ++ (b18 ++ (b21 ++ (b23 ++ (b24 ++ (b28 ++ b29))))))))))))) [s0, .raw (.int .i64 c.q.width), s2, s3, .raw (.int .i64 c.q.mul), .raw (.int .i64 c.q.shift), .raw (.int .i64 c.k.width), s7, s8, .raw (.int .i64 c.k.mul), .raw (.int .i64 c.k.shift), .raw (.int .i64 c.v.width), s12, s13, .raw (.int .i64 c.v.mul), .raw (.int .i64 c.v.shift), .raw (.int .i64 c.o.width), s17, s18, .raw (.int .i64 c.o.mul), .raw (.int .i64 c.o.shift), s21, .raw (.int .i64 c.up.width), s23, s24, .raw (.int .i64 c.up.mul), .raw (.int .i64 c.up.shift), .raw (.int .i64 c.down.width), s28, s29, .raw (.int .i64 c.down.mul), .raw (.int .i64 c.down.shift)] (eLayer c) := by
 have := OTs.cons a0 (OTs.cons (OT.raw (v := .int .i64 c.q.width) rfl) (OTs.cons a2 (OTs.cons a3 (OTs.cons (OT.raw (v := .int .i64 c.q.mul) rfl) (OTs.cons (OT.raw (v := .int .i64 c.q.shift) rfl) (OTs.cons (OT.raw (v := .int .i64 c.k.width) rfl) (OTs.cons a7 (OTs.cons a8 (OTs.cons (OT.raw (v := .int .i64 c.k.mul) rfl) (OTs.cons (OT.raw (v := .int .i64 c.k.shift) rfl) (OTs.cons (OT.raw (v := .int .i64 c.v.width) rfl) (OTs.cons a12 (OTs.cons a13 (OTs.cons (OT.raw (v := .int .i64 c.v.mul) rfl) (OTs.cons (OT.raw (v := .int .i64 c.v.shift) rfl) (OTs.cons (OT.raw (v := .int .i64 c.o.width) rfl) (OTs.cons a17 (OTs.cons a18 (OTs.cons (OT.raw (v := .int .i64 c.o.mul) rfl) (OTs.cons (OT.raw (v := .int .i64 c.o.shift) rfl) (OTs.cons a21 (OTs.cons (OT.raw (v := .int .i64 c.up.width) rfl) (OTs.cons a23 (OTs.cons a24 (OTs.cons (OT.raw (v := .int .i64 c.up.mul) rfl) (OTs.cons (OT.raw (v := .int .i64 c.up.shift) rfl) (OTs.cons (OT.raw (v := .int .i64 c.down.width) rfl) (OTs.cons a28 (OTs.cons a29 (OTs.cons (OT.raw (v := .int .i64 c.down.mul) rfl) (OTs.cons (OT.raw (v := .int .i64 c.down.shift) rfl) (OTs.nil))))))))))))))))))))))))))))))))
 simpa only [eLayer, List.append_nil, List.nil_append] using this
theorem szLayer_ok {F : Nat → Adr} {c : LLayer} {left : Int} {h : H2} (hf : fitLayer c) (hl : 0 ≤ left ∧ left ≤ 1048576) : PW Tryz.prog W0 168 [.st (xLayer F c), .raw (.int .i64 left)] h (fun y => ∃ k : Int, y = .raw (.int .i64 k) ∧ (0 ≤ k → (szLayer c : Int) + k ≤ left)) := by
 unfold fitLayer at hf
 refine PW.scalar ?_
 refine begins [[0, 1], [1, 2], [1, 2], [], [1, 2], [1, 2], [], [1, 2], [1, 2], [], [1, 2], [1, 2], [], [1, 2], [1, 2], [], [1, 2], [1, 2], [], [1, 2], [1, 2], [], [1, 2], [1], [], [1]] Tryz.func168 rfl (rs := [.tmp 4]) rfl rfl ?_
 intro wf
 repeat (first | rw [ko] | rw [kr] | simp -dsimp -implicitDefEqProofs only [go_sem, rq1])
 refine pw_intro (szIntS_pw  hf.1 ⟨by omega, by omega⟩) ?_
 rintro _ n0 hn0 ⟨k0, rfl, hk0⟩
 repeat (first | rw [ko] | rw [kr] | simp -dsimp -implicitDefEqProofs only [go_sem, rq1])
 refine gz_dec (fun q0 => ?_) (fun q0 => ?_)
 ·repeat (first | rw [ko] | rw [kr] | simp -dsimp -implicitDefEqProofs only [go_sem])
  exact ⟨zale, ⟨_, rfl⟩, _, rfl, fun hh => by omega⟩
 repeat (first | rw [ko] | rw [kr] | simp -dsimp -implicitDefEqProofs only [go_sem, rq1])
 refine pw_intro (szMatrix_ok (F := fun j => F (j + 1)) hf.2.1 ⟨by omega, by omega⟩) ?_
 rintro _ n1 hn1 ⟨k1, rfl, hk1⟩
 repeat (first | rw [ko] | rw [kr] | simp -dsimp -implicitDefEqProofs only [go_sem, rq1])
 refine gz_dec (fun q1 => ?_) (fun q1 => ?_)
 ·repeat (first | rw [ko] | rw [kr] | simp -dsimp -implicitDefEqProofs only [go_sem])
  exact ⟨zale, ⟨_, rfl⟩, _, rfl, fun hh => by omega⟩
 repeat (first | rw [ko] | rw [kr] | simp -dsimp -implicitDefEqProofs only [go_sem, rq1])
 refine pw_intro (szMatrix_ok (F := fun j => F (j + 6)) hf.2.2.1 ⟨by omega, by omega⟩) ?_
 rintro _ n2 hn2 ⟨k2, rfl, hk2⟩
 repeat (first | rw [ko] | rw [kr] | simp -dsimp -implicitDefEqProofs only [go_sem, rq1])
 refine gz_dec (fun q2 => ?_) (fun q2 => ?_)
 ·repeat (first | rw [ko] | rw [kr] | simp -dsimp -implicitDefEqProofs only [go_sem])
  exact ⟨zale, ⟨_, rfl⟩, _, rfl, fun hh => by omega⟩
 repeat (first | rw [ko] | rw [kr] | simp -dsimp -implicitDefEqProofs only [go_sem, rq1])
 refine pw_intro (szMatrix_ok (F := fun j => F (j + 11)) hf.2.2.2.1 ⟨by omega, by omega⟩) ?_
 rintro _ n3 hn3 ⟨k3, rfl, hk3⟩
 repeat (first | rw [ko] | rw [kr] | simp -dsimp -implicitDefEqProofs only [go_sem, rq1])
 refine gz_dec (fun q3 => ?_) (fun q3 => ?_)
 ·repeat (first | rw [ko] | rw [kr] | simp -dsimp -implicitDefEqProofs only [go_sem])
  exact ⟨zale, ⟨_, rfl⟩, _, rfl, fun hh => by omega⟩
 repeat (first | rw [ko] | rw [kr] | simp -dsimp -implicitDefEqProofs only [go_sem, rq1])
 refine pw_intro (szMatrix_ok (F := fun j => F (j + 16)) hf.2.2.2.2.1 ⟨by omega, by omega⟩) ?_
 rintro _ n4 hn4 ⟨k4, rfl, hk4⟩
 repeat (first | rw [ko] | rw [kr] | simp -dsimp -implicitDefEqProofs only [go_sem, rq1])
 refine gz_dec (fun q4 => ?_) (fun q4 => ?_)
 ·repeat (first | rw [ko] | rw [kr] | simp -dsimp -implicitDefEqProofs only [go_sem])
  exact ⟨zale, ⟨_, rfl⟩, _, rfl, fun hh => by omega⟩
 repeat (first | rw [ko] | rw [kr] | simp -dsimp -implicitDefEqProofs only [go_sem, rq1])
 refine pw_intro (szIntS_pw  hf.2.2.2.2.2.1 ⟨by omega, by omega⟩) ?_
 rintro _ n5 hn5 ⟨k5, rfl, hk5⟩
 repeat (first | rw [ko] | rw [kr] | simp -dsimp -implicitDefEqProofs only [go_sem, rq1])
 refine gz_dec (fun q5 => ?_) (fun q5 => ?_)
 ·repeat (first | rw [ko] | rw [kr] | simp -dsimp -implicitDefEqProofs only [go_sem])
  exact ⟨zale, ⟨_, rfl⟩, _, rfl, fun hh => by omega⟩
 repeat (first | rw [ko] | rw [kr] | simp -dsimp -implicitDefEqProofs only [go_sem, rq1])
 refine pw_intro (szMatrix_ok (F := fun j => F (j + 22)) hf.2.2.2.2.2.2.1 ⟨by omega, by omega⟩) ?_
 rintro _ n6 hn6 ⟨k6, rfl, hk6⟩
 repeat (first | rw [ko] | rw [kr] | simp -dsimp -implicitDefEqProofs only [go_sem, rq1])
 refine gz_dec (fun q6 => ?_) (fun q6 => ?_)
 ·repeat (first | rw [ko] | rw [kr] | simp -dsimp -implicitDefEqProofs only [go_sem])
  exact ⟨zale, ⟨_, rfl⟩, _, rfl, fun hh => by omega⟩
 repeat (first | rw [ko] | rw [kr] | simp -dsimp -implicitDefEqProofs only [go_sem, rq1])
 refine pw_intro (szMatrix_ok (F := fun j => F (j + 27)) hf.2.2.2.2.2.2.2 ⟨by omega, by omega⟩) ?_
 rintro _ n7 hn7 ⟨k7, rfl, hk7⟩
 repeat (first | rw [ko] | rw [kr] | simp -dsimp -implicitDefEqProofs only [go_sem])
 refine gz_dec (fun q7 => ?_) (fun q7 => ?_)
 ·repeat (first | rw [ko] | rw [kr] | simp -dsimp -implicitDefEqProofs only [go_sem])
  exact ⟨zale, ⟨_, rfl⟩, _, rfl, fun hh => by omega⟩
 repeat (first | rw [ko] | rw [kr] | simp -dsimp -implicitDefEqProofs only [go_sem, rq1])
 exact ⟨zale, ⟨_, rfl⟩, _, rfl, fun hh => by unfold szLayer; omega⟩
theorem eqLayer_ok {F F' : Nat → Adr} {c : LLayer} {h : H2} (hf : fitLayer c) : PW Tryz.prog W0 172 [.st (xLayer F c), .st (xLayer F' c)] h (fun y => y = .raw (.bool true)) := by
 unfold fitLayer at hf
 refine PW.scalar ?_
 refine begins [[0, 1], [2, 3], [], [2, 3], [], [2, 3], [], [2, 3], [], [2, 3], [], [2, 3], [], [2, 3], [], [2, 3], [], []] Tryz.func172 rfl (rs := [.tmp 4]) rfl rfl ?_
 intro wf
 repeat (first | rw [ko] | rw [kr] | simp -dsimp -implicitDefEqProofs only [go_sem])
 refine pw_intro (eqIntS_pw  hf.1) ?_
 rintro _ n0 hn0 rfl
 repeat (first | rw [ko] | rw [kr] | simp -dsimp -implicitDefEqProofs only [go_sem, rq1])
 refine pw_intro (eqMatrix_ok (F := fun j => F (j + 1)) (F' := fun j => F' (j + 1)) hf.2.1) ?_
 rintro _ n1 hn1 rfl
 repeat (first | rw [ko] | rw [kr] | simp -dsimp -implicitDefEqProofs only [go_sem, rq1])
 refine pw_intro (eqMatrix_ok (F := fun j => F (j + 6)) (F' := fun j => F' (j + 6)) hf.2.2.1) ?_
 rintro _ n2 hn2 rfl
 repeat (first | rw [ko] | rw [kr] | simp -dsimp -implicitDefEqProofs only [go_sem, rq1])
 refine pw_intro (eqMatrix_ok (F := fun j => F (j + 11)) (F' := fun j => F' (j + 11)) hf.2.2.2.1) ?_
 rintro _ n3 hn3 rfl
 repeat (first | rw [ko] | rw [kr] | simp -dsimp -implicitDefEqProofs only [go_sem, rq1])
 refine pw_intro (eqMatrix_ok (F := fun j => F (j + 16)) (F' := fun j => F' (j + 16)) hf.2.2.2.2.1) ?_
 rintro _ n4 hn4 rfl
 repeat (first | rw [ko] | rw [kr] | simp -dsimp -implicitDefEqProofs only [go_sem, rq1])
 refine pw_intro (eqIntS_pw  hf.2.2.2.2.2.1) ?_
 rintro _ n5 hn5 rfl
 repeat (first | rw [ko] | rw [kr] | simp -dsimp -implicitDefEqProofs only [go_sem, rq1])
 refine pw_intro (eqMatrix_ok (F := fun j => F (j + 22)) (F' := fun j => F' (j + 22)) hf.2.2.2.2.2.2.1) ?_
 rintro _ n6 hn6 rfl
 repeat (first | rw [ko] | rw [kr] | simp -dsimp -implicitDefEqProofs only [go_sem, rq1])
 refine pw_intro (eqMatrix_ok (F := fun j => F (j + 27)) (F' := fun j => F' (j + 27)) hf.2.2.2.2.2.2.2) ?_
 rintro _ n7 hn7 rfl
 repeat (first | rw [ko] | rw [kr] | simp -dsimp -implicitDefEqProofs only [go_sem])
 exact ⟨zale, ⟨_, rfl⟩, rfl⟩
theorem toLayer_ok {F : Nat → Adr} {c : LLayer} {h : H2} (hs : szLayer c ≤ 1048576) : NewS Tryz.prog W0 170 [.st (xLayer F c)] h (eLayer c) := by
 unfold szLayer at hs
 refine begins [[0], [1, 2], [1, 2, 3], [1, 2, 3], [1, 2, 3], [1, 2, 3], [1, 2, 3], [1, 2, 3], [1, 2, 3], [1, 2, 3], [2, 3]] Tryz.func170 rfl (rs := [.cell 2 155]) rfl rfl ?_
 intro wf
 repeat (first | rw [ko] | rw [kr] | simp -dsimp -implicitDefEqProofs only [go_sem])
 refine wz_intro (toIntS_new  (by omega)) ?_
 rintro s0 g0 ⟨l0, b0, o0, bl0⟩
 have ce0 := OT.cell o0
 have n0 := l0.n
 have a00 := l0.2 (hn h .mk) (by simp only [hn_push]; omega)
 have a01 := l0.2 (hn h .mk + 1) (by simp only [hn_push]; omega)
 have a02 := l0.2 (hn h .mk + 1 + 1) (by simp only [hn_push]; omega)
 simp -dsimp -implicitDefEqProofs only [go_sem, hoo] at n0 a00 a01 a02
 have L0 : h.le g0 := H2.le.trans zale l0
 repeat (first | rw [ko] | rw [kr] | simp -dsimp -implicitDefEqProofs only [go_sem, rq1, a00, a02, ce0])
 refine wz_intro (toMatrix_ok (F := fun j => F (j + 1)) (by omega)) ?_
 rintro _ g1 ⟨l1, ys1, b1, rfl, o1, bl1⟩
 obtain ⟨b1_1, s2, b1_2, s3, rfl, hb1, o1_1, o1_2⟩ := invMatrix o1
 have ce2 := OT.cell o1_1
 have ce3 := OT.cell o1_2
 have n1 := l1.n
 have a10 := l1.2 (hn h .mk) (by simp only [hn_set]; omega)
 have a11 := l1.2 (hn h .mk + 1) (by simp only [hn_set]; omega)
 have a12 := l1.2 (hn h .mk + 1 + 1) (by simp only [hn_set]; omega)
 simp -dsimp -implicitDefEqProofs only [go_sem, a00, a01, hoo] at n1 a10 a11 a12
 have L1 : h.le g1 := H2.le.trans zale l1
 repeat (first | rw [ko] | rw [kr] | simp -dsimp -implicitDefEqProofs only [go_sem, rq1, rq2, a10, a12, ce2, ce3])
 refine wz_intro (toMatrix_ok (F := fun j => F (j + 6)) (by omega)) ?_
 rintro _ g2 ⟨l2, ys2, b2, rfl, o2, bl2⟩
 obtain ⟨b2_1, s7, b2_2, s8, rfl, hb2, o2_1, o2_2⟩ := invMatrix o2
 have ce7 := OT.cell o2_1
 have ce8 := OT.cell o2_2
 have n2 := l2.n
 have a20 := l2.2 (hn h .mk) (by simp only [hn_set]; omega)
 have a21 := l2.2 (hn h .mk + 1) (by simp only [hn_set]; omega)
 have a22 := l2.2 (hn h .mk + 1 + 1) (by simp only [hn_set]; omega)
 simp -dsimp -implicitDefEqProofs only [go_sem, a10, a11, hoo] at n2 a20 a21 a22
 have L2 : h.le g2 := H2.le.trans zale l2
 repeat (first | rw [ko] | rw [kr] | simp -dsimp -implicitDefEqProofs only [go_sem, rq1, rq2, a20, a22, ce7, ce8])
 refine wz_intro (toMatrix_ok (F := fun j => F (j + 11)) (by omega)) ?_
 rintro _ g3 ⟨l3, ys3, b3, rfl, o3, bl3⟩
 obtain ⟨b3_1, s12, b3_2, s13, rfl, hb3, o3_1, o3_2⟩ := invMatrix o3
 have ce12 := OT.cell o3_1
 have ce13 := OT.cell o3_2
 have n3 := l3.n
 have a30 := l3.2 (hn h .mk) (by simp only [hn_set]; omega)
 have a31 := l3.2 (hn h .mk + 1) (by simp only [hn_set]; omega)
 have a32 := l3.2 (hn h .mk + 1 + 1) (by simp only [hn_set]; omega)
 simp -dsimp -implicitDefEqProofs only [go_sem, a20, a21, hoo] at n3 a30 a31 a32
 have L3 : h.le g3 := H2.le.trans zale l3
 repeat (first | rw [ko] | rw [kr] | simp -dsimp -implicitDefEqProofs only [go_sem, rq1, rq2, a30, a32, ce12, ce13])
 refine wz_intro (toMatrix_ok (F := fun j => F (j + 16)) (by omega)) ?_
 rintro _ g4 ⟨l4, ys4, b4, rfl, o4, bl4⟩
 obtain ⟨b4_1, s17, b4_2, s18, rfl, hb4, o4_1, o4_2⟩ := invMatrix o4
 have ce17 := OT.cell o4_1
 have ce18 := OT.cell o4_2
 have n4 := l4.n
 have a40 := l4.2 (hn h .mk) (by simp only [hn_set]; omega)
 have a41 := l4.2 (hn h .mk + 1) (by simp only [hn_set]; omega)
 have a42 := l4.2 (hn h .mk + 1 + 1) (by simp only [hn_set]; omega)
 simp -dsimp -implicitDefEqProofs only [go_sem, a30, a31, hoo] at n4 a40 a41 a42
 have L4 : h.le g4 := H2.le.trans zale l4
 repeat (first | rw [ko] | rw [kr] | simp -dsimp -implicitDefEqProofs only [go_sem, rq1, rq2, a40, a42, ce17, ce18])
 refine wz_intro (toIntS_new  (by omega)) ?_
 rintro s21 g5 ⟨l5, b5, o5, bl5⟩
 have ce21 := OT.cell o5
 have n5 := l5.n
 have a50 := l5.2 (hn h .mk) (by simp only [hn_set]; omega)
 have a51 := l5.2 (hn h .mk + 1) (by simp only [hn_set]; omega)
 have a52 := l5.2 (hn h .mk + 1 + 1) (by simp only [hn_set]; omega)
 simp -dsimp -implicitDefEqProofs only [go_sem, a40, a41, hoo] at n5 a50 a51 a52
 have L5 : h.le g5 := H2.le.trans zale l5
 repeat (first | rw [ko] | rw [kr] | simp -dsimp -implicitDefEqProofs only [go_sem, rq1, a50, a52, ce21])
 refine wz_intro (toMatrix_ok (F := fun j => F (j + 22)) (by omega)) ?_
 rintro _ g6 ⟨l6, ys6, b6, rfl, o6, bl6⟩
 obtain ⟨b6_1, s23, b6_2, s24, rfl, hb6, o6_1, o6_2⟩ := invMatrix o6
 have ce23 := OT.cell o6_1
 have ce24 := OT.cell o6_2
 have n6 := l6.n
 have a60 := l6.2 (hn h .mk) (by simp only [hn_set]; omega)
 have a61 := l6.2 (hn h .mk + 1) (by simp only [hn_set]; omega)
 have a62 := l6.2 (hn h .mk + 1 + 1) (by simp only [hn_set]; omega)
 simp -dsimp -implicitDefEqProofs only [go_sem, a50, a51, hoo] at n6 a60 a61 a62
 have L6 : h.le g6 := H2.le.trans zale l6
 repeat (first | rw [ko] | rw [kr] | simp -dsimp -implicitDefEqProofs only [go_sem, rq1, rq2, a60, a62, ce23, ce24])
 refine wz_intro (toMatrix_ok (F := fun j => F (j + 27)) (by omega)) ?_
 rintro _ g7 ⟨l7, ys7, b7, rfl, o7, bl7⟩
 obtain ⟨b7_1, s28, b7_2, s29, rfl, hb7, o7_1, o7_2⟩ := invMatrix o7
 have ce28 := OT.cell o7_1
 have ce29 := OT.cell o7_2
 have n7 := l7.n
 have a70 := l7.2 (hn h .mk) (by simp only [hn_set]; omega)
 have a71 := l7.2 (hn h .mk + 1) (by simp only [hn_set]; omega)
 have a72 := l7.2 (hn h .mk + 1 + 1) (by simp only [hn_set]; omega)
 simp -dsimp -implicitDefEqProofs only [go_sem, a60, a61, hoo] at n7 a70 a71 a72
 have L7 : h.le g7 := H2.le.trans zale l7
 repeat (first | rw [ko] | rw [kr] | simp -dsimp -implicitDefEqProofs only [go_sem, rq1, rq2, a71, a72, ce0, ce2, ce3, ce7, ce8, ce12, ce13, ce17, ce18, ce21, ce23, ce24, ce28, ce29])
 refine ⟨zale, _, b0 ++ (b1_1 ++ (b1_2 ++ (b2_1 ++ (b2_2 ++ (b3_1 ++ (b3_2 ++ (b4_1 ++ (b4_2 ++ (b5 ++ (b6_1 ++ (b6_2 ++ (b7_1 ++ b7_2)))))))))))), rfl, outLayer (c := c) ?_ ?_ ?_ ?_ ?_ ?_ ?_ ?_ ?_ ?_ ?_ ?_ ?_ ?_, ?_⟩
 ·refine OT.frame o0 fun b hb => ?_
  have hbl := bl0.2 b (hb)
  simp only [hn_push] at hbl
  simp only [H2.set]
  rw [if_neg (by omega), if_neg (by omega)]
  rw [show g7.get b = _ from l7.2 b (by simp only [hn_set]; omega)]
  simp only [hg, H2.set]
  rw [if_neg (by omega)]
  rw [show g6.get b = _ from l6.2 b (by simp only [hn_set]; omega)]
  simp only [hg, H2.set]
  rw [if_neg (by omega)]
  rw [show g5.get b = _ from l5.2 b (by simp only [hn_set]; omega)]
  simp only [hg, H2.set]
  rw [if_neg (by omega)]
  rw [show g4.get b = _ from l4.2 b (by simp only [hn_set]; omega)]
  simp only [hg, H2.set]
  rw [if_neg (by omega)]
  rw [show g3.get b = _ from l3.2 b (by simp only [hn_set]; omega)]
  simp only [hg, H2.set]
  rw [if_neg (by omega)]
  rw [show g2.get b = _ from l2.2 b (by simp only [hn_set]; omega)]
  simp only [hg, H2.set]
  rw [if_neg (by omega)]
  rw [show g1.get b = _ from l1.2 b (by simp only [hn_set]; omega)]
  simp only [hg, H2.set]
  rw [if_neg (by omega)]
 ·refine OT.frame o1_1 fun b hb => ?_
  have hbl := bl1.2 b (by rw [hb1]; simp [hb])
  simp only [hn_set] at hbl
  simp only [H2.set]
  rw [if_neg (by omega), if_neg (by omega)]
  rw [show g7.get b = _ from l7.2 b (by simp only [hn_set]; omega)]
  simp only [hg, H2.set]
  rw [if_neg (by omega)]
  rw [show g6.get b = _ from l6.2 b (by simp only [hn_set]; omega)]
  simp only [hg, H2.set]
  rw [if_neg (by omega)]
  rw [show g5.get b = _ from l5.2 b (by simp only [hn_set]; omega)]
  simp only [hg, H2.set]
  rw [if_neg (by omega)]
  rw [show g4.get b = _ from l4.2 b (by simp only [hn_set]; omega)]
  simp only [hg, H2.set]
  rw [if_neg (by omega)]
  rw [show g3.get b = _ from l3.2 b (by simp only [hn_set]; omega)]
  simp only [hg, H2.set]
  rw [if_neg (by omega)]
  rw [show g2.get b = _ from l2.2 b (by simp only [hn_set]; omega)]
  simp only [hg, H2.set]
  rw [if_neg (by omega)]
 ·refine OT.frame o1_2 fun b hb => ?_
  have hbl := bl1.2 b (by rw [hb1]; simp [hb])
  simp only [hn_set] at hbl
  simp only [H2.set]
  rw [if_neg (by omega), if_neg (by omega)]
  rw [show g7.get b = _ from l7.2 b (by simp only [hn_set]; omega)]
  simp only [hg, H2.set]
  rw [if_neg (by omega)]
  rw [show g6.get b = _ from l6.2 b (by simp only [hn_set]; omega)]
  simp only [hg, H2.set]
  rw [if_neg (by omega)]
  rw [show g5.get b = _ from l5.2 b (by simp only [hn_set]; omega)]
  simp only [hg, H2.set]
  rw [if_neg (by omega)]
  rw [show g4.get b = _ from l4.2 b (by simp only [hn_set]; omega)]
  simp only [hg, H2.set]
  rw [if_neg (by omega)]
  rw [show g3.get b = _ from l3.2 b (by simp only [hn_set]; omega)]
  simp only [hg, H2.set]
  rw [if_neg (by omega)]
  rw [show g2.get b = _ from l2.2 b (by simp only [hn_set]; omega)]
  simp only [hg, H2.set]
  rw [if_neg (by omega)]
 ·refine OT.frame o2_1 fun b hb => ?_
  have hbl := bl2.2 b (by rw [hb2]; simp [hb])
  simp only [hn_set] at hbl
  simp only [H2.set]
  rw [if_neg (by omega), if_neg (by omega)]
  rw [show g7.get b = _ from l7.2 b (by simp only [hn_set]; omega)]
  simp only [hg, H2.set]
  rw [if_neg (by omega)]
  rw [show g6.get b = _ from l6.2 b (by simp only [hn_set]; omega)]
  simp only [hg, H2.set]
  rw [if_neg (by omega)]
  rw [show g5.get b = _ from l5.2 b (by simp only [hn_set]; omega)]
  simp only [hg, H2.set]
  rw [if_neg (by omega)]
  rw [show g4.get b = _ from l4.2 b (by simp only [hn_set]; omega)]
  simp only [hg, H2.set]
  rw [if_neg (by omega)]
  rw [show g3.get b = _ from l3.2 b (by simp only [hn_set]; omega)]
  simp only [hg, H2.set]
  rw [if_neg (by omega)]
 ·refine OT.frame o2_2 fun b hb => ?_
  have hbl := bl2.2 b (by rw [hb2]; simp [hb])
  simp only [hn_set] at hbl
  simp only [H2.set]
  rw [if_neg (by omega), if_neg (by omega)]
  rw [show g7.get b = _ from l7.2 b (by simp only [hn_set]; omega)]
  simp only [hg, H2.set]
  rw [if_neg (by omega)]
  rw [show g6.get b = _ from l6.2 b (by simp only [hn_set]; omega)]
  simp only [hg, H2.set]
  rw [if_neg (by omega)]
  rw [show g5.get b = _ from l5.2 b (by simp only [hn_set]; omega)]
  simp only [hg, H2.set]
  rw [if_neg (by omega)]
  rw [show g4.get b = _ from l4.2 b (by simp only [hn_set]; omega)]
  simp only [hg, H2.set]
  rw [if_neg (by omega)]
  rw [show g3.get b = _ from l3.2 b (by simp only [hn_set]; omega)]
  simp only [hg, H2.set]
  rw [if_neg (by omega)]
 ·refine OT.frame o3_1 fun b hb => ?_
  have hbl := bl3.2 b (by rw [hb3]; simp [hb])
  simp only [hn_set] at hbl
  simp only [H2.set]
  rw [if_neg (by omega), if_neg (by omega)]
  rw [show g7.get b = _ from l7.2 b (by simp only [hn_set]; omega)]
  simp only [hg, H2.set]
  rw [if_neg (by omega)]
  rw [show g6.get b = _ from l6.2 b (by simp only [hn_set]; omega)]
  simp only [hg, H2.set]
  rw [if_neg (by omega)]
  rw [show g5.get b = _ from l5.2 b (by simp only [hn_set]; omega)]
  simp only [hg, H2.set]
  rw [if_neg (by omega)]
  rw [show g4.get b = _ from l4.2 b (by simp only [hn_set]; omega)]
  simp only [hg, H2.set]
  rw [if_neg (by omega)]
 ·refine OT.frame o3_2 fun b hb => ?_
  have hbl := bl3.2 b (by rw [hb3]; simp [hb])
  simp only [hn_set] at hbl
  simp only [H2.set]
  rw [if_neg (by omega), if_neg (by omega)]
  rw [show g7.get b = _ from l7.2 b (by simp only [hn_set]; omega)]
  simp only [hg, H2.set]
  rw [if_neg (by omega)]
  rw [show g6.get b = _ from l6.2 b (by simp only [hn_set]; omega)]
  simp only [hg, H2.set]
  rw [if_neg (by omega)]
  rw [show g5.get b = _ from l5.2 b (by simp only [hn_set]; omega)]
  simp only [hg, H2.set]
  rw [if_neg (by omega)]
  rw [show g4.get b = _ from l4.2 b (by simp only [hn_set]; omega)]
  simp only [hg, H2.set]
  rw [if_neg (by omega)]
 ·refine OT.frame o4_1 fun b hb => ?_
  have hbl := bl4.2 b (by rw [hb4]; simp [hb])
  simp only [hn_set] at hbl
  simp only [H2.set]
  rw [if_neg (by omega), if_neg (by omega)]
  rw [show g7.get b = _ from l7.2 b (by simp only [hn_set]; omega)]
  simp only [hg, H2.set]
  rw [if_neg (by omega)]
  rw [show g6.get b = _ from l6.2 b (by simp only [hn_set]; omega)]
  simp only [hg, H2.set]
  rw [if_neg (by omega)]
  rw [show g5.get b = _ from l5.2 b (by simp only [hn_set]; omega)]
  simp only [hg, H2.set]
  rw [if_neg (by omega)]
 ·refine OT.frame o4_2 fun b hb => ?_
  have hbl := bl4.2 b (by rw [hb4]; simp [hb])
  simp only [hn_set] at hbl
  simp only [H2.set]
  rw [if_neg (by omega), if_neg (by omega)]
  rw [show g7.get b = _ from l7.2 b (by simp only [hn_set]; omega)]
  simp only [hg, H2.set]
  rw [if_neg (by omega)]
  rw [show g6.get b = _ from l6.2 b (by simp only [hn_set]; omega)]
  simp only [hg, H2.set]
  rw [if_neg (by omega)]
  rw [show g5.get b = _ from l5.2 b (by simp only [hn_set]; omega)]
  simp only [hg, H2.set]
  rw [if_neg (by omega)]
 ·refine OT.frame o5 fun b hb => ?_
  have hbl := bl5.2 b (hb)
  simp only [hn_set] at hbl
  simp only [H2.set]
  rw [if_neg (by omega), if_neg (by omega)]
  rw [show g7.get b = _ from l7.2 b (by simp only [hn_set]; omega)]
  simp only [hg, H2.set]
  rw [if_neg (by omega)]
  rw [show g6.get b = _ from l6.2 b (by simp only [hn_set]; omega)]
  simp only [hg, H2.set]
  rw [if_neg (by omega)]
 ·refine OT.frame o6_1 fun b hb => ?_
  have hbl := bl6.2 b (by rw [hb6]; simp [hb])
  simp only [hn_set] at hbl
  simp only [H2.set]
  rw [if_neg (by omega), if_neg (by omega)]
  rw [show g7.get b = _ from l7.2 b (by simp only [hn_set]; omega)]
  simp only [hg, H2.set]
  rw [if_neg (by omega)]
 ·refine OT.frame o6_2 fun b hb => ?_
  have hbl := bl6.2 b (by rw [hb6]; simp [hb])
  simp only [hn_set] at hbl
  simp only [H2.set]
  rw [if_neg (by omega), if_neg (by omega)]
  rw [show g7.get b = _ from l7.2 b (by simp only [hn_set]; omega)]
  simp only [hg, H2.set]
  rw [if_neg (by omega)]
 ·refine OT.frame o7_1 fun b hb => ?_
  have hbl := bl7.2 b (by rw [hb7]; simp [hb])
  simp only [hn_set] at hbl
  simp only [H2.set]
  rw [if_neg (by omega), if_neg (by omega)]
 ·refine OT.frame o7_2 fun b hb => ?_
  have hbl := bl7.2 b (by rw [hb7]; simp [hb])
  simp only [hn_set] at hbl
  simp only [H2.set]
  rw [if_neg (by omega), if_neg (by omega)]
 ·simp only [hn_set]
  have m0 := bl0
  simp only [hn_push] at m0
  have m1 := bl1
  simp only [hn_set] at m1
  rw [hb1] at m1
  have m2 := bl2
  simp only [hn_set] at m2
  rw [hb2] at m2
  have m3 := bl3
  simp only [hn_set] at m3
  rw [hb3] at m3
  have m4 := bl4
  simp only [hn_set] at m4
  rw [hb4] at m4
  have m5 := bl5
  simp only [hn_set] at m5
  have m6 := bl6
  simp only [hn_set] at m6
  rw [hb6] at m6
  have m7 := bl7
  simp only [hn_set] at m7
  rw [hb7] at m7
  have := ((Bl.append m0 (Bl.append m1 (Bl.append m2 (Bl.append m3 (Bl.append m4 (Bl.append m5 (Bl.append m6 m7 (by omega) (by omega)) (by omega) (by omega)) (by omega) (by omega)) (by omega) (by omega)) (by omega) (by omega)) (by omega) (by omega)) (by omega) (by omega))).wide (N' := hn h .mk) (by omega) (Nat.le_refl _)
  simpa only [List.append_assoc] using this
end Go.Bi
end
section
set_option maxRecDepth 20000
namespace Go.Bi
open Go.Proofs
open Go.Ai (wrap_i64 wrap_u8)
variable {W0 : World}
def rLayerS (zs : List LLayer) : List (List T) := zs.map eLayer
theorem rLayerS_len {zs : List LLayer} : (rLayerS zs).length = zs.length := by simp [rLayerS]
theorem rLayerS_el {zs : List LLayer} {i : Nat} (hi : i < zs.length) : el (rLayerS zs) i = eLayer (zs.getD i default) := el_map hi
attribute [go_sem] rLayerS_len rLayerS_el
def szLayerS (zs : List LLayer) : Nat := zs.length + sumN szLayer zs
def fitLayerS (zs : List LLayer) : Prop := zs.length ≤ 9223372036854775807 ∧ ∀ x ∈ zs, fitLayer x
theorem szLayerS_pw {f : Adr} {zs : List LLayer} {left : Int} {h : H2} (hf : fitLayerS zs) (hl : 0 ≤ left ∧ left ≤ 1048576) : PW Tryz.prog W0 73 [.sl f 32 (rLayerS zs), .raw (.int .i64 left)] h (fun y => ∃ k : Int, y = .raw (.int .i64 k) ∧ (0 ≤ k → (szLayerS zs : Int) + k ≤ left)) := by
 obtain ⟨hf1, hf2⟩ := hf
 unfold szLayerS
 have hw : IntKind.i64.wrap (left - zs.length) = left - zs.length := by rw [wrap_i64] <;> omega
 refine PW.scalar ?_
 refine begins [[0, 1], [0, 1], [0, 1], [], [0, 1], [0, 1, 5], [0, 1, 5], [0, 1, 5], [0, 1, 5], [], [1]] Tryz.func73 rfl (rs := [.tmp 4]) rfl rfl ?_
 intro wf
 repeat (first | rw [ko] | rw [kr] | simp -dsimp -implicitDefEqProofs only [go_sem, rq1, hw])
 refine gz_dec (fun h1 => ?_) (fun h1 => ?_)
 ·repeat (first | rw [ko] | rw [kr] | simp -dsimp -implicitDefEqProofs only [go_sem])
  exact ⟨H2.le.refl _, ⟨_, rfl⟩, _, rfl, fun hh => by omega⟩
 ·repeat (first | rw [ko] | rw [kr] | simp -dsimp -implicitDefEqProofs only [go_sem, rq1])
  refine lz_keep [0] (fun m e h' => ∃ (k n : Nat) (x : Int), h' = h.up n ∧ hn h .mk ≤ n ∧ look e 5 .mk = .raw (.int .i64 k) ∧ look e 1 .mk = .raw (.int .i64 x) ∧ 0 ≤ x ∧ (zs.length : Int) + sumN szLayer (zs.take k) + x ≤ left ∧ m + k = zs.length) zs.length ?_ ?_
  ·exact ⟨0, hn h .mk, left - zs.length, up_self, Nat.le_refl _, zsm, zsm, by omega, by simp [sumN]; omega, by omega⟩
  ·rintro m e h' hks ⟨k, n, x, rfl, hnn, e5, e1, hx, hsum, hk⟩
   simp -dsimp -implicitDefEqProofs only [go_sem, rq1] at hks
   by_cases h2 : (k : Int) < (zs.length : Int)
   ·have h3 : k < zs.length := by omega
    have hst : sumN szLayer (zs.take (k + 1)) = sumN szLayer (zs.take k) + szLayer (zs.getD k default) := sumN_take (f := szLayer) h3
    repeat (first | rw [ko] | rw [kr] | simp -dsimp -implicitDefEqProofs only [go_sem, rq1, rq2, rq3, hks, e5, e1, h2, h3])
    refine pw_intro (szLayer_ok (F := under (under f k)) (c := zs.getD k default) (hf2 _ (getD_mem h3)) ⟨by omega, by omega⟩) ?_
    rintro _ n2 hn2 ⟨x2, rfl, hx2⟩
    simp only [hn_up] at hn2
    repeat (first | rw [ko] | rw [kr] | simp -dsimp -implicitDefEqProofs only [go_sem, rq1])
    refine gz_dec (fun h4 => ?_) (fun h4 => ?_)
    ·repeat (first | rw [ko] | rw [kr] | simp -dsimp -implicitDefEqProofs only [go_sem])
     exact ⟨(by first | exact le_up (H2.le.refl _) (by omega) | exact le_up (le_up (H2.le.refl _) hnn) (by rw [hn_up]; omega)), ⟨_, rfl⟩, _, rfl, fun hh => by omega⟩
    ·repeat (first | rw [ko] | rw [kr] | simp -dsimp -implicitDefEqProofs only [go_sem, rq1, wrap_succ h3 hf1])
     exact nx_keep (m - 1) (by omega) zsm ⟨k + 1, n2, x2, up_up, by omega, zsm, zsm, by omega, by have := hx2 (by omega); omega, by omega⟩
   ·repeat (first | rw [ko] | rw [kr] | simp -dsimp -implicitDefEqProofs only [go_sem, rq1, hks, e5, e1, h2])
    refine ⟨le_up (H2.le.refl _) hnn, ⟨_, rfl⟩, x, rfl, fun _ => ?_⟩
    rw [List.take_of_length_le (by omega)] at hsum
    omega
theorem eqLayerS_pw {f f' : Adr} {zs : List LLayer} {h : H2} (hf : fitLayerS zs) : PW Tryz.prog W0 84 [.sl f 32 (rLayerS zs), .sl f' 32 (rLayerS zs)] h (fun y => y = .raw (.bool true)) := by
 obtain ⟨hf1, hf2⟩ := hf
 refine PW.scalar ?_
 refine begins [[0, 1], [0, 1], [], [0, 1], [0, 1, 5], [0, 1, 5], [0, 1, 5], [], []] Tryz.func84 rfl (rs := [.tmp 4]) rfl rfl ?_
 intro wf
 repeat (first | rw [ko] | rw [kr] | simp -dsimp -implicitDefEqProofs only [go_sem, rq1])
 refine lz_keep [0, 1] (fun m e h' => ∃ (k n : Nat), h' = h.up n ∧ hn h .mk ≤ n ∧ look e 5 .mk = .raw (.int .i64 k) ∧ m + k = zs.length) zs.length ?_ ?_
 ·exact ⟨0, hn h .mk, up_self, Nat.le_refl _, zsm, by omega⟩
 ·rintro m e h' hks ⟨k, n, rfl, hnn, e5, hk⟩
  simp -dsimp -implicitDefEqProofs only [go_sem, rq1] at hks
  by_cases h2 : (k : Int) < (zs.length : Int)
  ·have h3 : k < zs.length := by omega
   repeat (first | rw [ko] | rw [kr] | simp -dsimp -implicitDefEqProofs only [go_sem, rq1, hks, e5, h2])
   refine dq_intro [(0, []), (1, []), (2, []), (3, []), (4, []), (5, []), (6, []), (7, []), (8, []), (9, [])] (by kernel_rfl) ?_
   repeat (first | rw [ko] | rw [kr] | simp -dsimp -implicitDefEqProofs only [go_sem, rq1, rq2, rq3, h3])
   refine pw_intro (eqLayer_ok (F := under (under f k)) (F' := under (under f' k)) (c := zs.getD k default) (hf2 _ (getD_mem h3))) ?_
   rintro _ n2 hn2 rfl
   simp only [hn_up] at hn2
   repeat (first | rw [ko] | rw [kr] | simp -dsimp -implicitDefEqProofs only [go_sem, rq1, wrap_succ h3 hf1])
   exact nx_keep (m - 1) (by omega) zsm ⟨k + 1, n2, up_up, by omega, zsm, by omega⟩
  ·repeat (first | rw [ko] | rw [kr] | simp -dsimp -implicitDefEqProofs only [go_sem, rq1, hks, e5, h2])
   exact ⟨le_up (H2.le.refl _) hnn, ⟨_, rfl⟩, rfl⟩
theorem toLayerS_new {f : Adr} {zs : List LLayer} {h : H2} (hs : szLayerS zs ≤ 1048576) : NewT Tryz.prog W0 79 [.sl f 32 (rLayerS zs)] h (.l 32 (rLayerS zs)) := by
 unfold szLayerS at hs
 have hE : ∀ a, (eLayer a).length = 32 := fun a => rfl
 refine begins [[0], [0], [0, 3], [0, 3, 4], [0, 3, 4], [0, 3, 4], [3]] Tryz.func79 rfl (rs := [.tmp 2]) rfl rfl ?_
 intro wf
 repeat (first | rw [ko] | rw [kr] | simp -dsimp -implicitDefEqProofs only [go_sem])
 refine make_intro Ai.ty_el26 Ai.ty_zr155 (by decide) ⟨by omega, by simp only [Int.toNat_natCast]; have : Ai.most = 1099511627776 := rfl; omega⟩ ?_
 repeat (first | rw [ko] | rw [kr] | simp -dsimp -implicitDefEqProofs only [go_sem, rq1])
 refine lz_keep [0, 3] (fun m e h' => ∃ (k : Nat) (cs : List X) (bs : List Nat), look e 4 .mk = .raw (.int .i64 k) ∧ m + k = zs.length ∧ hg h' (hn h .mk) .mk = some ⟨32, cs⟩ ∧ cs.length = zs.length * 32 ∧ OTs h' bs (cs.take (k * 32)) (((zs.take k).map eLayer).flatten) ∧ Bl (hn h .mk + 1) (hn h' .mk) bs ∧ h.le h' ∧ hn h .mk < hn h' .mk) zs.length ?_ ?_
 ·exact ⟨0, _, [], zsm, by omega, (by rw [hg_push, hoo]; rfl), by simp [rep_len], by simpa using OTs.nil, Bl.nil, le_push (H2.le.refl _), by rw [hn_push]; omega⟩
 ·rintro m e h' hks ⟨k, cs, bs, e4, hk, hrow, hcs, ho, hbl, hle, hlt⟩
  simp -dsimp -implicitDefEqProofs only [go_sem] at hks
  by_cases h2 : (k : Int) < (zs.length : Int)
  ·have h3 : k < zs.length := by omega
   have hsm : szLayer (zs.getD k default) ≤ sumN szLayer zs := sumN_mem (f := szLayer) (getD_mem h3)
   repeat (first | rw [ko] | rw [kr] | simp -dsimp -implicitDefEqProofs only [go_sem, rq1, rq2, rq3, hks, e4, h2, h3])
   refine wz_intro (toLayer_ok (F := under (under f k)) (c := zs.getD k default) (by omega)) ?_
   rintro _ g2 ⟨l2, ys, b2, rfl, o2, bl2⟩
   have nn2 := l2.1
   have hyl : (ys).length = 32 := (OTs.len o2).trans (hE _)
   have hyo := OTs.okx o2
   obtain ⟨w1, w2, w3⟩ := wrt_next hcs h3 hyl
   have row2 := (l2.2 (hn h .mk) hlt).trans hrow
   have hi2 : (0 : Int) ≤ (k : Int) ∧ (k : Int) < (zs.length : Int) := by omega
   repeat (first | rw [ko] | rw [kr] | simp -dsimp -implicitDefEqProofs only [go_sem, rq1, row2, hi2, hyl, hyo, w1, wrap_succ h3 (by omega)])
   have hset : ∀ {b : Nat} {kk : OB}, b ≠ hn h .mk → (g2.set (hn h .mk) kk).get b = g2.get b := fun hb => by simp only [H2.set]; rw [if_neg hb]
   refine nx_keep (m - 1) (by omega) zsm ⟨k + 1, _, bs ++ b2, zsm, by omega, (by rw [hg_set, hoo]; rfl), w2, ?_, ?_, le_set (hle.trans l2) (Nat.le_refl _), by simp -dsimp -implicitDefEqProofs only [go_sem] <;> omega⟩
   ·rw [w3, flat_next h3]
    refine OTs.append ((OTs.keep ho l2 hbl).frame fun b hb => hset (by have := (hbl.2 b hb).1; omega)) (o2.frame fun b hb => hset (by have := (bl2.2 b hb).1; omega))
   ·rw [hn_set]
    exact hbl.append bl2 (by omega) nn2
  ·repeat (first | rw [ko] | rw [kr] | simp -dsimp -implicitDefEqProofs only [go_sem, rq1, hks, e4, h2])
   have : k = zs.length := by omega
   subst this
   obtain ⟨q1, q2⟩ := OT.full hE hrow hcs ho hbl hlt
   exact ⟨hle, _, q1, q2⟩
structure LModel where
 dim : Int
 heads : Int
 context : Int
 merges : List LMerge
 embed : List (List Int)
 layers : List LLayer
 gainEnd : List Int
 head : LMatrix
 turns : LTurns
instance : Inhabited LModel := ⟨⟨default, default, default, default, default, default, default, default, default⟩⟩
def eModel (c : LModel) : List T := [.v (.int .i64 c.dim), .v (.int .i64 c.heads), .v (.int .i64 c.context), .l 2 (rMergeS c.merges), .l 1 (rIntSS c.embed), .l 32 (rLayerS c.layers), .l 1 (ints c.gainEnd), .v (.int .i64 c.head.width), .l 1 (rIntSS c.head.rows), .l 1 (rIntSS c.head.scales), .v (.int .i64 c.head.mul), .v (.int .i64 c.head.shift), .l 1 (rIntSS c.turns.cos), .l 1 (rIntSS c.turns.sin)]
def xModel (F : Nat → Adr) (c : LModel) : List X := [.raw (.int .i64 c.dim), .raw (.int .i64 c.heads), .raw (.int .i64 c.context), .sl (F 3) 2 (rMergeS c.merges), .sl (F 4) 1 (rIntSS c.embed), .sl (F 5) 32 (rLayerS c.layers), .sl (F 6) 1 (ints c.gainEnd), .raw (.int .i64 c.head.width), .sl (F 8) 1 (rIntSS c.head.rows), .sl (F 9) 1 (rIntSS c.head.scales), .raw (.int .i64 c.head.mul), .raw (.int .i64 c.head.shift), .sl (F 12) 1 (rIntSS c.turns.cos), .sl (F 13) 1 (rIntSS c.turns.sin)]
theorem xModel_def {F : Nat → Adr} {c : LModel} : xModel F c = [.raw (.int .i64 c.dim), .raw (.int .i64 c.heads), .raw (.int .i64 c.context), .sl (F 3) 2 (rMergeS c.merges), .sl (F 4) 1 (rIntSS c.embed), .sl (F 5) 32 (rLayerS c.layers), .sl (F 6) 1 (ints c.gainEnd), .raw (.int .i64 c.head.width), .sl (F 8) 1 (rIntSS c.head.rows), .sl (F 9) 1 (rIntSS c.head.scales), .raw (.int .i64 c.head.mul), .raw (.int .i64 c.head.shift), .sl (F 12) 1 (rIntSS c.turns.cos), .sl (F 13) 1 (rIntSS c.turns.sin)] := rfl
def szModel (c : LModel) : Nat := szMergeS c.merges + szIntSS c.embed + szLayerS c.layers + c.gainEnd.length + szMatrix c.head + szTurns c.turns
def fitModel (c : LModel) : Prop := fitMergeS c.merges ∧ fitIntSS c.embed ∧ fitLayerS c.layers ∧ c.gainEnd.length ≤ 9223372036854775807 ∧ fitMatrix c.head ∧ fitTurns c.turns
attribute [go_sem] xModel_def
theorem invModel {g : H2} {bs : List Nat} {ys : List X} {c : LModel} (o : OTs g bs ys (eModel c)) : ∃ b3 s3 b4 s4 b5 s5 b6 s6 b8 s8 b9 s9 b12 s12 b13 s13, ys = [.raw (.int .i64 c.dim), .raw (.int .i64 c.heads), .raw (.int .i64 c.context), s3, s4, s5, s6, .raw (.int .i64 c.head.width), s8, s9, .raw (.int .i64 c.head.mul), .raw (.int .i64 c.head.shift), s12, s13] ∧ bs = b3 ++ (b4 ++ (b5 ++ (b6 ++ (b8 ++ (b9 ++ (b12 ++ b13)))))) ∧ OT g b3 s3 (.l 2 (rMergeS c.merges)) ∧ OT g b4 s4 (.l 1 (rIntSS c.embed)) ∧ OT g b5 s5 (.l 32 (rLayerS c.layers)) ∧ OT g b6 s6 (.l 1 (ints c.gainEnd)) ∧ OT g b8 s8 (.l 1 (rIntSS c.head.rows)) ∧ OT g b9 s9 (.l 1 (rIntSS c.head.scales)) ∧ OT g b12 s12 (.l 1 (rIntSS c.turns.cos)) ∧ OT g b13 s13 (.l 1 (rIntSS c.turns.sin)) := by
 unfold eModel at o
 obtain ⟨ys0, rfl, o0⟩ := OTs.headv o
 obtain ⟨ys1, rfl, o1⟩ := OTs.headv o0
 obtain ⟨ys2, rfl, o2⟩ := OTs.headv o1
 obtain ⟨b3, bs3, s3, ys3, rfl, rfl, a3, o3⟩ := OTs.head o2
 obtain ⟨b4, bs4, s4, ys4, rfl, rfl, a4, o4⟩ := OTs.head o3
 obtain ⟨b5, bs5, s5, ys5, rfl, rfl, a5, o5⟩ := OTs.head o4
 obtain ⟨b6, bs6, s6, ys6, rfl, rfl, a6, o6⟩ := OTs.head o5
 obtain ⟨ys7, rfl, o7⟩ := OTs.headv o6
 obtain ⟨b8, bs8, s8, ys8, rfl, rfl, a8, o8⟩ := OTs.head o7
 obtain ⟨b9, bs9, s9, ys9, rfl, rfl, a9, o9⟩ := OTs.head o8
 obtain ⟨ys10, rfl, o10⟩ := OTs.headv o9
 obtain ⟨ys11, rfl, o11⟩ := OTs.headv o10
 obtain ⟨b12, bs12, s12, ys12, rfl, rfl, a12, o12⟩ := OTs.head o11
 obtain ⟨b13, bs13, s13, ys13, rfl, rfl, a13, o13⟩ := OTs.head o12
 obtain ⟨rfl, rfl⟩ := OTs.tail0 o13
 exact ⟨_, _, _, _, _, _, _, _, _, _, _, _, _, _, _, _, rfl, by simp only [List.append_nil], a3, a4, a5, a6, a8, a9, a12, a13⟩
theorem outModel {g : H2} {c : LModel} {b3 b4 b5 b6 b8 b9 b12 b13 : List Nat} {s3 s4 s5 s6 s8 s9 s12 s13 : X} (a3 : OT g b3 s3 (.l 2 (rMergeS c.merges))) (a4 : OT g b4 s4 (.l 1 (rIntSS c.embed))) (a5 : OT g b5 s5 (.l 32 (rLayerS c.layers))) (a6 : OT g b6 s6 (.l 1 (ints c.gainEnd))) (a8 : OT g b8 s8 (.l 1 (rIntSS c.head.rows))) (a9 : OT g b9 s9 (.l 1 (rIntSS c.head.scales))) (a12 : OT g b12 s12 (.l 1 (rIntSS c.turns.cos))) (a13 : OT g b13 s13 (.l 1 (rIntSS c.turns.sin))) : OTs g (b3 ++ (b4 ++ (b5 ++ (b6 ++ (b8 ++ (b9 ++ (b12 ++ b13))))))) [.raw (.int .i64 c.dim), .raw (.int .i64 c.heads), .raw (.int .i64 c.context), s3, s4, s5, s6, .raw (.int .i64 c.head.width), s8, s9, .raw (.int .i64 c.head.mul), .raw (.int .i64 c.head.shift), s12, s13] (eModel c) := by
 have := OTs.cons (OT.raw (v := .int .i64 c.dim) rfl) (OTs.cons (OT.raw (v := .int .i64 c.heads) rfl) (OTs.cons (OT.raw (v := .int .i64 c.context) rfl) (OTs.cons a3 (OTs.cons a4 (OTs.cons a5 (OTs.cons a6 (OTs.cons (OT.raw (v := .int .i64 c.head.width) rfl) (OTs.cons a8 (OTs.cons a9 (OTs.cons (OT.raw (v := .int .i64 c.head.mul) rfl) (OTs.cons (OT.raw (v := .int .i64 c.head.shift) rfl) (OTs.cons a12 (OTs.cons a13 (OTs.nil))))))))))))))
 simpa only [eModel, List.append_nil, List.nil_append] using this
theorem szModel_ok {F : Nat → Adr} {c : LModel} {left : Int} {h : H2} (hf : fitModel c) (hl : 0 ≤ left ∧ left ≤ 1048576) : PW Tryz.prog W0 24 [.st (xModel F c), .raw (.int .i64 left)] h (fun y => ∃ k : Int, y = .raw (.int .i64 k) ∧ (0 ≤ k → (szModel c : Int) + k ≤ left)) := by
 unfold fitModel at hf
 refine PW.scalar ?_
 refine begins [[0, 1], [1, 2], [1, 2], [], [1, 2], [1, 2], [], [1, 2], [1, 2], [], [1, 2], [1, 2], [], [1, 2], [1, 2], [], [1, 2], [1], [], [1]] Tryz.func24 rfl (rs := [.tmp 4]) rfl rfl ?_
 intro wf
 repeat (first | rw [ko] | rw [kr] | simp -dsimp -implicitDefEqProofs only [go_sem, rq1])
 refine pw_intro (szMergeS_pw  hf.1 ⟨by omega, by omega⟩) ?_
 rintro _ n3 hn3 ⟨k3, rfl, hk3⟩
 repeat (first | rw [ko] | rw [kr] | simp -dsimp -implicitDefEqProofs only [go_sem, rq1])
 refine gz_dec (fun q3 => ?_) (fun q3 => ?_)
 ·repeat (first | rw [ko] | rw [kr] | simp -dsimp -implicitDefEqProofs only [go_sem])
  exact ⟨zale, ⟨_, rfl⟩, _, rfl, fun hh => by omega⟩
 repeat (first | rw [ko] | rw [kr] | simp -dsimp -implicitDefEqProofs only [go_sem, rq1])
 refine pw_intro (szIntSS_pw  hf.2.1 ⟨by omega, by omega⟩) ?_
 rintro _ n4 hn4 ⟨k4, rfl, hk4⟩
 repeat (first | rw [ko] | rw [kr] | simp -dsimp -implicitDefEqProofs only [go_sem, rq1])
 refine gz_dec (fun q4 => ?_) (fun q4 => ?_)
 ·repeat (first | rw [ko] | rw [kr] | simp -dsimp -implicitDefEqProofs only [go_sem])
  exact ⟨zale, ⟨_, rfl⟩, _, rfl, fun hh => by omega⟩
 repeat (first | rw [ko] | rw [kr] | simp -dsimp -implicitDefEqProofs only [go_sem, rq1])
 refine pw_intro (szLayerS_pw  hf.2.2.1 ⟨by omega, by omega⟩) ?_
 rintro _ n5 hn5 ⟨k5, rfl, hk5⟩
 repeat (first | rw [ko] | rw [kr] | simp -dsimp -implicitDefEqProofs only [go_sem, rq1])
 refine gz_dec (fun q5 => ?_) (fun q5 => ?_)
 ·repeat (first | rw [ko] | rw [kr] | simp -dsimp -implicitDefEqProofs only [go_sem])
  exact ⟨zale, ⟨_, rfl⟩, _, rfl, fun hh => by omega⟩
 repeat (first | rw [ko] | rw [kr] | simp -dsimp -implicitDefEqProofs only [go_sem, rq1])
 refine pw_intro (szIntS_pw  hf.2.2.2.1 ⟨by omega, by omega⟩) ?_
 rintro _ n6 hn6 ⟨k6, rfl, hk6⟩
 repeat (first | rw [ko] | rw [kr] | simp -dsimp -implicitDefEqProofs only [go_sem, rq1])
 refine gz_dec (fun q6 => ?_) (fun q6 => ?_)
 ·repeat (first | rw [ko] | rw [kr] | simp -dsimp -implicitDefEqProofs only [go_sem])
  exact ⟨zale, ⟨_, rfl⟩, _, rfl, fun hh => by omega⟩
 repeat (first | rw [ko] | rw [kr] | simp -dsimp -implicitDefEqProofs only [go_sem, rq1])
 refine pw_intro (szMatrix_ok (F := fun j => F (j + 7)) hf.2.2.2.2.1 ⟨by omega, by omega⟩) ?_
 rintro _ n7 hn7 ⟨k7, rfl, hk7⟩
 repeat (first | rw [ko] | rw [kr] | simp -dsimp -implicitDefEqProofs only [go_sem, rq1])
 refine gz_dec (fun q7 => ?_) (fun q7 => ?_)
 ·repeat (first | rw [ko] | rw [kr] | simp -dsimp -implicitDefEqProofs only [go_sem])
  exact ⟨zale, ⟨_, rfl⟩, _, rfl, fun hh => by omega⟩
 repeat (first | rw [ko] | rw [kr] | simp -dsimp -implicitDefEqProofs only [go_sem, rq1])
 refine pw_intro (szTurns_ok (F := fun j => F (j + 12)) hf.2.2.2.2.2 ⟨by omega, by omega⟩) ?_
 rintro _ n8 hn8 ⟨k8, rfl, hk8⟩
 repeat (first | rw [ko] | rw [kr] | simp -dsimp -implicitDefEqProofs only [go_sem])
 refine gz_dec (fun q8 => ?_) (fun q8 => ?_)
 ·repeat (first | rw [ko] | rw [kr] | simp -dsimp -implicitDefEqProofs only [go_sem])
  exact ⟨zale, ⟨_, rfl⟩, _, rfl, fun hh => by omega⟩
 repeat (first | rw [ko] | rw [kr] | simp -dsimp -implicitDefEqProofs only [go_sem, rq1])
 exact ⟨zale, ⟨_, rfl⟩, _, rfl, fun hh => by unfold szModel; omega⟩
theorem eqModel_ok {F F' : Nat → Adr} {c : LModel} {h : H2} (hf : fitModel c) : PW Tryz.prog W0 26 [.st (xModel F c), .st (xModel F' c)] h (fun y => y = .raw (.bool true)) := by
 unfold fitModel at hf
 refine PW.scalar ?_
 refine begins [[0, 1], [2, 3], [], [2, 3], [], [2, 3], [], [2, 3], [], [2, 3], [], [2, 3], [], [2, 3], [], [2, 3], [], [2, 3], [], []] Tryz.func26 rfl (rs := [.tmp 4]) rfl rfl ?_
 intro wf
 repeat (first | rw [ko] | rw [kr] | simp -dsimp -implicitDefEqProofs only [go_sem, rq1])
 refine pw_intro (eqMergeS_pw  hf.1) ?_
 rintro _ n3 hn3 rfl
 repeat (first | rw [ko] | rw [kr] | simp -dsimp -implicitDefEqProofs only [go_sem, rq1])
 refine pw_intro (eqIntSS_pw  hf.2.1) ?_
 rintro _ n4 hn4 rfl
 repeat (first | rw [ko] | rw [kr] | simp -dsimp -implicitDefEqProofs only [go_sem, rq1])
 refine pw_intro (eqLayerS_pw  hf.2.2.1) ?_
 rintro _ n5 hn5 rfl
 repeat (first | rw [ko] | rw [kr] | simp -dsimp -implicitDefEqProofs only [go_sem, rq1])
 refine pw_intro (eqIntS_pw  hf.2.2.2.1) ?_
 rintro _ n6 hn6 rfl
 repeat (first | rw [ko] | rw [kr] | simp -dsimp -implicitDefEqProofs only [go_sem, rq1])
 refine pw_intro (eqMatrix_ok (F := fun j => F (j + 7)) (F' := fun j => F' (j + 7)) hf.2.2.2.2.1) ?_
 rintro _ n7 hn7 rfl
 repeat (first | rw [ko] | rw [kr] | simp -dsimp -implicitDefEqProofs only [go_sem, rq1])
 refine pw_intro (eqTurns_ok (F := fun j => F (j + 12)) (F' := fun j => F' (j + 12)) hf.2.2.2.2.2) ?_
 rintro _ n8 hn8 rfl
 repeat (first | rw [ko] | rw [kr] | simp -dsimp -implicitDefEqProofs only [go_sem])
 exact ⟨zale, ⟨_, rfl⟩, rfl⟩
theorem toModel_ok {F : Nat → Adr} {c : LModel} {h : H2} (hs : szModel c ≤ 1048576) : NewS Tryz.prog W0 25 [.st (xModel F c)] h (eModel c) := by
 unfold szModel at hs
 refine begins [[0], [1, 2], [1, 2, 3], [1, 2, 3], [1, 2, 3], [1, 2, 3], [1, 2, 3], [1, 2, 3], [1, 2, 3], [1, 2, 3], [1, 2, 3], [2, 3]] Tryz.func25 rfl (rs := [.cell 2 33]) rfl rfl ?_
 intro wf
 repeat (first | rw [ko] | rw [kr] | simp -dsimp -implicitDefEqProofs only [go_sem, rq1])
 refine wz_intro (toMergeS_new  (by omega)) ?_
 rintro s3 g3 ⟨l3, b3, o3, bl3⟩
 have ce3 := OT.cell o3
 have n3 := l3.n
 have a30 := l3.2 (hn h .mk) (by simp only [hn_push, hn_set]; omega)
 have a31 := l3.2 (hn h .mk + 1) (by simp only [hn_push, hn_set]; omega)
 have a32 := l3.2 (hn h .mk + 1 + 1) (by simp only [hn_push, hn_set]; omega)
 simp -dsimp -implicitDefEqProofs only [go_sem, hoo] at n3 a30 a31 a32
 have L3 : h.le g3 := H2.le.trans zale l3
 repeat (first | rw [ko] | rw [kr] | simp -dsimp -implicitDefEqProofs only [go_sem, rq1, a30, a32, ce3])
 refine wz_intro (toIntSS_new  (by omega)) ?_
 rintro s4 g4 ⟨l4, b4, o4, bl4⟩
 have ce4 := OT.cell o4
 have n4 := l4.n
 have a40 := l4.2 (hn h .mk) (by simp only [hn_set]; omega)
 have a41 := l4.2 (hn h .mk + 1) (by simp only [hn_set]; omega)
 have a42 := l4.2 (hn h .mk + 1 + 1) (by simp only [hn_set]; omega)
 simp -dsimp -implicitDefEqProofs only [go_sem, a30, a31, hoo] at n4 a40 a41 a42
 have L4 : h.le g4 := H2.le.trans zale l4
 repeat (first | rw [ko] | rw [kr] | simp -dsimp -implicitDefEqProofs only [go_sem, rq1, a40, a42, ce4])
 refine wz_intro (toLayerS_new  (by omega)) ?_
 rintro s5 g5 ⟨l5, b5, o5, bl5⟩
 have ce5 := OT.cell o5
 have n5 := l5.n
 have a50 := l5.2 (hn h .mk) (by simp only [hn_set]; omega)
 have a51 := l5.2 (hn h .mk + 1) (by simp only [hn_set]; omega)
 have a52 := l5.2 (hn h .mk + 1 + 1) (by simp only [hn_set]; omega)
 simp -dsimp -implicitDefEqProofs only [go_sem, a40, a41, hoo] at n5 a50 a51 a52
 have L5 : h.le g5 := H2.le.trans zale l5
 repeat (first | rw [ko] | rw [kr] | simp -dsimp -implicitDefEqProofs only [go_sem, rq1, a50, a52, ce5])
 refine wz_intro (toIntS_new  (by omega)) ?_
 rintro s6 g6 ⟨l6, b6, o6, bl6⟩
 have ce6 := OT.cell o6
 have n6 := l6.n
 have a60 := l6.2 (hn h .mk) (by simp only [hn_set]; omega)
 have a61 := l6.2 (hn h .mk + 1) (by simp only [hn_set]; omega)
 have a62 := l6.2 (hn h .mk + 1 + 1) (by simp only [hn_set]; omega)
 simp -dsimp -implicitDefEqProofs only [go_sem, a50, a51, hoo] at n6 a60 a61 a62
 have L6 : h.le g6 := H2.le.trans zale l6
 repeat (first | rw [ko] | rw [kr] | simp -dsimp -implicitDefEqProofs only [go_sem, rq1, a60, a62, ce6])
 refine wz_intro (toMatrix_ok (F := fun j => F (j + 7)) (by omega)) ?_
 rintro _ g7 ⟨l7, ys7, b7, rfl, o7, bl7⟩
 obtain ⟨b7_1, s8, b7_2, s9, rfl, hb7, o7_1, o7_2⟩ := invMatrix o7
 have ce8 := OT.cell o7_1
 have ce9 := OT.cell o7_2
 have n7 := l7.n
 have a70 := l7.2 (hn h .mk) (by simp only [hn_set]; omega)
 have a71 := l7.2 (hn h .mk + 1) (by simp only [hn_set]; omega)
 have a72 := l7.2 (hn h .mk + 1 + 1) (by simp only [hn_set]; omega)
 simp -dsimp -implicitDefEqProofs only [go_sem, a60, a61, hoo] at n7 a70 a71 a72
 have L7 : h.le g7 := H2.le.trans zale l7
 repeat (first | rw [ko] | rw [kr] | simp -dsimp -implicitDefEqProofs only [go_sem, rq1, rq2, a70, a72, ce8, ce9])
 refine wz_intro (toTurns_ok (F := fun j => F (j + 12)) (by omega)) ?_
 rintro _ g8 ⟨l8, ys8, b8, rfl, o8, bl8⟩
 obtain ⟨b8_0, s12, b8_1, s13, rfl, hb8, o8_0, o8_1⟩ := invTurns o8
 have ce12 := OT.cell o8_0
 have ce13 := OT.cell o8_1
 have n8 := l8.n
 have a80 := l8.2 (hn h .mk) (by simp only [hn_set]; omega)
 have a81 := l8.2 (hn h .mk + 1) (by simp only [hn_set]; omega)
 have a82 := l8.2 (hn h .mk + 1 + 1) (by simp only [hn_set]; omega)
 simp -dsimp -implicitDefEqProofs only [go_sem, a70, a71, hoo] at n8 a80 a81 a82
 have L8 : h.le g8 := H2.le.trans zale l8
 repeat (first | rw [ko] | rw [kr] | simp -dsimp -implicitDefEqProofs only [go_sem, rq1, rq2, a81, a82, ce3, ce4, ce5, ce6, ce8, ce9, ce12, ce13])
 refine ⟨zale, _, b3 ++ (b4 ++ (b5 ++ (b6 ++ (b7_1 ++ (b7_2 ++ (b8_0 ++ b8_1)))))), rfl, outModel (c := c) ?_ ?_ ?_ ?_ ?_ ?_ ?_ ?_, ?_⟩
 ·refine OT.frame o3 fun b hb => ?_
  have hbl := bl3.2 b (hb)
  simp only [hn_push, hn_set] at hbl
  simp only [H2.set]
  rw [if_neg (by omega), if_neg (by omega)]
  rw [show g8.get b = _ from l8.2 b (by simp only [hn_set]; omega)]
  simp only [hg, H2.set]
  rw [if_neg (by omega)]
  rw [show g7.get b = _ from l7.2 b (by simp only [hn_set]; omega)]
  simp only [hg, H2.set]
  rw [if_neg (by omega)]
  rw [show g6.get b = _ from l6.2 b (by simp only [hn_set]; omega)]
  simp only [hg, H2.set]
  rw [if_neg (by omega)]
  rw [show g5.get b = _ from l5.2 b (by simp only [hn_set]; omega)]
  simp only [hg, H2.set]
  rw [if_neg (by omega)]
  rw [show g4.get b = _ from l4.2 b (by simp only [hn_set]; omega)]
  simp only [hg, H2.set]
  rw [if_neg (by omega)]
 ·refine OT.frame o4 fun b hb => ?_
  have hbl := bl4.2 b (hb)
  simp only [hn_set] at hbl
  simp only [H2.set]
  rw [if_neg (by omega), if_neg (by omega)]
  rw [show g8.get b = _ from l8.2 b (by simp only [hn_set]; omega)]
  simp only [hg, H2.set]
  rw [if_neg (by omega)]
  rw [show g7.get b = _ from l7.2 b (by simp only [hn_set]; omega)]
  simp only [hg, H2.set]
  rw [if_neg (by omega)]
  rw [show g6.get b = _ from l6.2 b (by simp only [hn_set]; omega)]
  simp only [hg, H2.set]
  rw [if_neg (by omega)]
  rw [show g5.get b = _ from l5.2 b (by simp only [hn_set]; omega)]
  simp only [hg, H2.set]
  rw [if_neg (by omega)]
 ·refine OT.frame o5 fun b hb => ?_
  have hbl := bl5.2 b (hb)
  simp only [hn_set] at hbl
  simp only [H2.set]
  rw [if_neg (by omega), if_neg (by omega)]
  rw [show g8.get b = _ from l8.2 b (by simp only [hn_set]; omega)]
  simp only [hg, H2.set]
  rw [if_neg (by omega)]
  rw [show g7.get b = _ from l7.2 b (by simp only [hn_set]; omega)]
  simp only [hg, H2.set]
  rw [if_neg (by omega)]
  rw [show g6.get b = _ from l6.2 b (by simp only [hn_set]; omega)]
  simp only [hg, H2.set]
  rw [if_neg (by omega)]
 ·refine OT.frame o6 fun b hb => ?_
  have hbl := bl6.2 b (hb)
  simp only [hn_set] at hbl
  simp only [H2.set]
  rw [if_neg (by omega), if_neg (by omega)]
  rw [show g8.get b = _ from l8.2 b (by simp only [hn_set]; omega)]
  simp only [hg, H2.set]
  rw [if_neg (by omega)]
  rw [show g7.get b = _ from l7.2 b (by simp only [hn_set]; omega)]
  simp only [hg, H2.set]
  rw [if_neg (by omega)]
 ·refine OT.frame o7_1 fun b hb => ?_
  have hbl := bl7.2 b (by rw [hb7]; simp [hb])
  simp only [hn_set] at hbl
  simp only [H2.set]
  rw [if_neg (by omega), if_neg (by omega)]
  rw [show g8.get b = _ from l8.2 b (by simp only [hn_set]; omega)]
  simp only [hg, H2.set]
  rw [if_neg (by omega)]
 ·refine OT.frame o7_2 fun b hb => ?_
  have hbl := bl7.2 b (by rw [hb7]; simp [hb])
  simp only [hn_set] at hbl
  simp only [H2.set]
  rw [if_neg (by omega), if_neg (by omega)]
  rw [show g8.get b = _ from l8.2 b (by simp only [hn_set]; omega)]
  simp only [hg, H2.set]
  rw [if_neg (by omega)]
 ·refine OT.frame o8_0 fun b hb => ?_
  have hbl := bl8.2 b (by rw [hb8]; simp [hb])
  simp only [hn_set] at hbl
  simp only [H2.set]
  rw [if_neg (by omega), if_neg (by omega)]
 ·refine OT.frame o8_1 fun b hb => ?_
  have hbl := bl8.2 b (by rw [hb8]; simp [hb])
  simp only [hn_set] at hbl
  simp only [H2.set]
  rw [if_neg (by omega), if_neg (by omega)]
 ·simp only [hn_set]
  have m3 := bl3
  simp only [hn_push, hn_set] at m3
  have m4 := bl4
  simp only [hn_set] at m4
  have m5 := bl5
  simp only [hn_set] at m5
  have m6 := bl6
  simp only [hn_set] at m6
  have m7 := bl7
  simp only [hn_set] at m7
  rw [hb7] at m7
  have m8 := bl8
  simp only [hn_set] at m8
  rw [hb8] at m8
  have := ((Bl.append m3 (Bl.append m4 (Bl.append m5 (Bl.append m6 (Bl.append m7 m8 (by omega) (by omega)) (by omega) (by omega)) (by omega) (by omega)) (by omega) (by omega)) (by omega) (by omega))).wide (N' := hn h .mk) (by omega) (Nat.le_refl _)
  simpa only [List.append_assoc] using this
end Go.Bi
end
