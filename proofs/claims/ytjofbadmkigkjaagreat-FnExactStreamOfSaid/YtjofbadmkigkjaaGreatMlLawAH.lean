/- Own lemmas that the theorem of this claim needs: the abstract machine and walks of functions. -/
import Derived.Test.YtjofbadmkigkjaaGreatMlLawAA
import Derived.Test.YtjofbadmkigkjaaGreatMlLawAB
import Derived.Test.YtjofbadmkigkjaaGreatMlLawAC
import Derived.Test.YtjofbadmkigkjaaGreatMlLawAD
import Derived.Test.YtjofbadmkigkjaaGreatMlLawAE
import Derived.Test.YtjofbadmkigkjaaGreatMlLawAF
import Derived.Test.YtjofbadmkigkjaaGreatMlLawAG
import Derived.Laws.Bits128
section
set_option linter.unusedSimpArgs false
set_option linter.unusedVariables false
set_option maxRecDepth 20000
namespace Go.Bi
open Go.Proofs
open Go.Ai (wrap_i64 wrap_u8)
variable {W0 : World}
theorem toConfig_ok {F : Nat → Adr} {c : LConfig} {h : H2} (hs : szConfig c ≤ 1048576) : NewS Tryz.prog W0 39 [.st (xConfig F c)] h (eConfig c) := by
  unfold szConfig at hs
  refine start (P := Tryz.prog) [[0], [1, 2], [1, 2, 3], [1, 2, 3], [1, 2, 3], [1, 2, 3], [2, 3]] (by kernel_rfl) Tryz.func39 rfl (by decide) (by decide +kernel) (rs := [.cell 2 49]) rfl rfl (Nat.le_of_ble_eq_true rfl) ?_
  intro wf
  repeat (first | rw [kz_o] | rw [kz_r0] | simp -dsimp -implicitDefEqProofs only [go_sem, Nat.reduceBEq, Nat.reduceAdd, Nat.reduceLeDiff, Nat.reduceMul, Int.reduceLE, Int.reduceLT, Int.reduceBEq])
  refine wz_intro (toStringS_new  (by omega)) ?_
  rintro s3 g3 ⟨l3, b3, o3, bl3⟩
  have ce3 := OT.cell o3
  have n3 := l3.n
  have a30 := l3.2 (hn h .mk) (by simp only [hn_push, hn_set]; omega)
  have a31 := l3.2 (hn h .mk + 1) (by simp only [hn_push, hn_set]; omega)
  have a32 := l3.2 (hn h .mk + 1 + 1) (by simp only [hn_push, hn_set]; omega)
  simp -dsimp -implicitDefEqProofs only [go_sem, Nat.reduceBEq, Nat.reduceAdd, Nat.reduceLeDiff, Nat.reduceMul, Int.reduceLE, Int.reduceLT, Int.reduceBEq, hoo] at n3 a30 a31 a32
  have L3 : h.le g3 := H2.le.trans (by repeat (first | exact H2.le.refl _ | apply le_push | refine le_set ?_ (by omega))) l3
  repeat (first | rw [kz_o] | rw [kz_r0] | simp -dsimp -implicitDefEqProofs only [go_sem, Nat.reduceBEq, Nat.reduceAdd, Nat.reduceLeDiff, Nat.reduceMul, Int.reduceLE, Int.reduceLT, Int.reduceBEq, a30, a31, a32, ce3])
  refine ⟨by repeat (first | exact L3 | refine le_set ?_ (by omega)), _, b3, rfl, outConfig (c := c) ?_, ?_⟩
  · refine OT.frame o3 fun b hb => ?_
    have hbl := bl3.2 b (hb)
    simp only [hn_push, hn_set] at hbl
    simp only [H2.set]
    rw [if_neg (by omega), if_neg (by omega)]
  · simp only [hn_set]
    have m3 := bl3
    simp only [hn_push, hn_set] at m3
    have := (m3).wide (N' := hn h .mk) (by omega) (Nat.le_refl _)
    simpa only [List.append_assoc] using this
theorem toTable_ok {F : Nat → Adr} {c : LTable} {h : H2} (hs : szTable c ≤ 1048576) : NewS Tryz.prog W0 219 [.st (xTable F c)] h (eTable c) := by
  unfold szTable at hs
  refine start (P := Tryz.prog) [[0], [1, 2], [1, 2, 3], [1, 2, 3], [2, 3]] (by kernel_rfl) Tryz.func219 rfl (by decide) (by decide +kernel) (rs := [.cell 2 100]) rfl rfl (Nat.le_of_ble_eq_true rfl) ?_
  intro wf
  repeat (first | rw [kz_o] | rw [kz_r0] | simp -dsimp -implicitDefEqProofs only [go_sem, Nat.reduceBEq, Nat.reduceAdd, Nat.reduceLeDiff, Nat.reduceMul, Int.reduceLE, Int.reduceLT, Int.reduceBEq])
  refine wz_intro (toIntS_new  (by omega)) ?_
  rintro s0 g0 ⟨l0, b0, o0, bl0⟩
  have ce0 := OT.cell o0
  have n0 := l0.n
  have a00 := l0.2 (hn h .mk) (by simp only [hn_push, hn_set]; omega)
  have a01 := l0.2 (hn h .mk + 1) (by simp only [hn_push, hn_set]; omega)
  have a02 := l0.2 (hn h .mk + 1 + 1) (by simp only [hn_push, hn_set]; omega)
  simp -dsimp -implicitDefEqProofs only [go_sem, Nat.reduceBEq, Nat.reduceAdd, Nat.reduceLeDiff, Nat.reduceMul, Int.reduceLE, Int.reduceLT, Int.reduceBEq, hoo] at n0 a00 a01 a02
  have L0 : h.le g0 := H2.le.trans (by repeat (first | exact H2.le.refl _ | apply le_push | refine le_set ?_ (by omega))) l0
  repeat (first | rw [kz_o] | rw [kz_r0] | simp -dsimp -implicitDefEqProofs only [go_sem, Nat.reduceBEq, Nat.reduceAdd, Nat.reduceLeDiff, Nat.reduceMul, Int.reduceLE, Int.reduceLT, Int.reduceBEq, a00, a01, a02, ce0])
  refine ⟨by repeat (first | exact L0 | refine le_set ?_ (by omega)), _, b0, rfl, outTable (c := c) ?_, ?_⟩
  · refine OT.frame o0 fun b hb => ?_
    have hbl := bl0.2 b (hb)
    simp only [hn_push, hn_set] at hbl
    simp only [H2.set]
    rw [if_neg (by omega), if_neg (by omega)]
  · simp only [hn_set]
    have m0 := bl0
    simp only [hn_push, hn_set] at m0
    have := (m0).wide (N' := hn h .mk) (by omega) (Nat.le_refl _)
    simpa only [List.append_assoc] using this
theorem toRequest_ok {F : Nat → Adr} {c : LRequest} {h : H2} (hs : szRequest c ≤ 1048576) : NewS Tryz.prog W0 165 [.st (xRequest F c)] h (eRequest c) := by
  unfold szRequest at hs
  refine start (P := Tryz.prog) [[0], [1, 2], [1, 2, 3], [1, 2, 3], [1, 2, 3], [1, 2, 3], [1, 2, 3], [1, 2, 3], [2, 3]] (by kernel_rfl) Tryz.func165 rfl (by decide) (by decide +kernel) (rs := [.cell 2 102]) rfl rfl (Nat.le_of_ble_eq_true rfl) ?_
  intro wf
  repeat (first | rw [kz_o] | rw [kz_r0] | simp -dsimp -implicitDefEqProofs only [go_sem, Nat.reduceBEq, Nat.reduceAdd, Nat.reduceLeDiff, Nat.reduceMul, Int.reduceLE, Int.reduceLT, Int.reduceBEq])
  refine wz_intro (toIntS_new  (by omega)) ?_
  rintro s1 g1 ⟨l1, b1, o1, bl1⟩
  have ce1 := OT.cell o1
  have n1 := l1.n
  have a10 := l1.2 (hn h .mk) (by simp only [hn_push, hn_set]; omega)
  have a11 := l1.2 (hn h .mk + 1) (by simp only [hn_push, hn_set]; omega)
  have a12 := l1.2 (hn h .mk + 1 + 1) (by simp only [hn_push, hn_set]; omega)
  simp -dsimp -implicitDefEqProofs only [go_sem, Nat.reduceBEq, Nat.reduceAdd, Nat.reduceLeDiff, Nat.reduceMul, Int.reduceLE, Int.reduceLT, Int.reduceBEq, hoo] at n1 a10 a11 a12
  have L1 : h.le g1 := H2.le.trans (by repeat (first | exact H2.le.refl _ | apply le_push | refine le_set ?_ (by omega))) l1
  repeat (first | rw [kz_o] | rw [kz_r0] | simp -dsimp -implicitDefEqProofs only [go_sem, Nat.reduceBEq, Nat.reduceAdd, Nat.reduceLeDiff, Nat.reduceMul, Int.reduceLE, Int.reduceLT, Int.reduceBEq, a10, a11, a12, ce1])
  refine wz_intro (toConfig_ok (F := fun j => F (j + 2)) (by omega)) ?_
  rintro _ g2 ⟨l2, ys2, b2, rfl, o2, bl2⟩
  obtain ⟨b2_3, s5, rfl, hb2, o2_3⟩ := invConfig o2
  have ce5 := OT.cell o2_3
  have n2 := l2.n
  have a20 := l2.2 (hn h .mk) (by simp only [hn_push, hn_set]; omega)
  have a21 := l2.2 (hn h .mk + 1) (by simp only [hn_push, hn_set]; omega)
  have a22 := l2.2 (hn h .mk + 1 + 1) (by simp only [hn_push, hn_set]; omega)
  simp -dsimp -implicitDefEqProofs only [go_sem, Nat.reduceBEq, Nat.reduceAdd, Nat.reduceLeDiff, Nat.reduceMul, Int.reduceLE, Int.reduceLT, Int.reduceBEq, a10, a11, a12, hoo] at n2 a20 a21 a22
  have L2 : h.le g2 := H2.le.trans (by repeat (first | exact L1 | exact H2.le.refl _ | apply le_push | refine le_set ?_ (by omega))) l2
  repeat (first | rw [kz_o] | rw [kz_r0] | simp -dsimp -implicitDefEqProofs only [go_sem, Nat.reduceBEq, Nat.reduceAdd, Nat.reduceLeDiff, Nat.reduceMul, Int.reduceLE, Int.reduceLT, Int.reduceBEq, a20, a21, a22, ce1, ce5])
  refine wz_intro (toTable_ok (F := fun j => F (j + 7)) (by omega)) ?_
  rintro _ g4 ⟨l4, ys4, b4, rfl, o4, bl4⟩
  obtain ⟨b4_0, s7, rfl, hb4, o4_0⟩ := invTable o4
  have ce7 := OT.cell o4_0
  have n4 := l4.n
  have a40 := l4.2 (hn h .mk) (by simp only [hn_push, hn_set]; omega)
  have a41 := l4.2 (hn h .mk + 1) (by simp only [hn_push, hn_set]; omega)
  have a42 := l4.2 (hn h .mk + 1 + 1) (by simp only [hn_push, hn_set]; omega)
  simp -dsimp -implicitDefEqProofs only [go_sem, Nat.reduceBEq, Nat.reduceAdd, Nat.reduceLeDiff, Nat.reduceMul, Int.reduceLE, Int.reduceLT, Int.reduceBEq, a20, a21, a22, hoo] at n4 a40 a41 a42
  have L4 : h.le g4 := H2.le.trans (by repeat (first | exact L2 | exact H2.le.refl _ | apply le_push | refine le_set ?_ (by omega))) l4
  repeat (first | rw [kz_o] | rw [kz_r0] | simp -dsimp -implicitDefEqProofs only [go_sem, Nat.reduceBEq, Nat.reduceAdd, Nat.reduceLeDiff, Nat.reduceMul, Int.reduceLE, Int.reduceLT, Int.reduceBEq, a40, a41, a42, ce1, ce5, ce7])
  refine ⟨by repeat (first | exact L4 | refine le_set ?_ (by omega)), _, b1 ++ (b2_3 ++ b4_0), rfl, outRequest (c := c) ?_ ?_ ?_, ?_⟩
  · refine OT.frame o1 fun b hb => ?_
    have hbl := bl1.2 b (hb)
    simp only [hn_push, hn_set] at hbl
    simp only [H2.set]
    rw [if_neg (by omega), if_neg (by omega)]
    rw [show g4.get b = _ from l4.2 b (by simp only [hn_set]; omega)]
    simp only [hg, H2.set]
    rw [if_neg (by omega)]
    rw [show g2.get b = _ from l2.2 b (by simp only [hn_set]; omega)]
    simp only [hg, H2.set]
    rw [if_neg (by omega)]
  · refine OT.frame o2_3 fun b hb => ?_
    have hbl := bl2.2 b (by rw [hb2]; simp [hb])
    simp only [hn_push, hn_set] at hbl
    simp only [H2.set]
    rw [if_neg (by omega), if_neg (by omega)]
    rw [show g4.get b = _ from l4.2 b (by simp only [hn_set]; omega)]
    simp only [hg, H2.set]
    rw [if_neg (by omega)]
  · refine OT.frame o4_0 fun b hb => ?_
    have hbl := bl4.2 b (by rw [hb4]; simp [hb])
    simp only [hn_push, hn_set] at hbl
    simp only [H2.set]
    rw [if_neg (by omega), if_neg (by omega)]
  · simp only [hn_set]
    have m1 := bl1
    simp only [hn_push, hn_set] at m1
    have m2 := bl2
    simp only [hn_push, hn_set] at m2
    rw [hb2] at m2
    have m4 := bl4
    simp only [hn_push, hn_set] at m4
    rw [hb4] at m4
    have := ((Bl.append m1 (Bl.append m2 m4 (by omega) (by omega)) (by omega) (by omega))).wide (N' := hn h .mk) (by omega) (Nat.le_refl _)
    simpa only [List.append_assoc] using this
end Go.Bi
end
section
set_option linter.unusedSimpArgs false
set_option linter.unusedVariables false
set_option maxRecDepth 20000
namespace Go.Bi
open Go.Proofs
open Go.Ai (wrap_i64 wrap_u8 Heap)
variable {W0 : World} {P : Program}
def slB (f : Adr) (z : Nat) (es : List (List T)) (hh l : Option Nat) : Option X := match hh, l with
  | some hh, some l => some (.sl (subA f l (hh - l) z) z ((es.drop l).take (hh - l)))
  | _, _ => none
def bndL (hh : Option Nat) (lo : Option X) : Option Nat := match hh with | some hh => boundX hh lo 0 | none => none
theorem slB_some {f : Adr} {z : Nat} {es : List (List T)} {hh l : Nat} : slB f z es (some hh) (some l) = some (.sl (subA f l (hh - l) z) z ((es.drop l).take (hh - l))) := rfl
theorem bndL_some {hh : Nat} {lo : Option X} : bndL (some hh) lo = boundX hh lo 0 := rfl
theorem slice_sl {t z : Nat} {h : H2} {f : Adr} {es : List (List T)} {lo hi : Option X} (h1 : (Go.Ai.eltZ (Go.Ai.elt? P t) == z) = true) (he : (Go.Ai.elt? P t).isSome = true) :
    slicez P h t (.sl f z es) lo hi none .mk = slB f z es (boundX es.length hi es.length) (bndL (boundX es.length hi es.length) lo) := by
  simp only [slicez, sliceX]
  cases hq : Go.Ai.elt? P t with
  | none => rw [hq] at he; cases he
  | some q =>
    obtain ⟨u, s, b⟩ := q
    rw [hq] at h1
    simp only [Go.Ai.eltZ, beq_iff_eq] at h1
    simp only [Option.isSome_none, Bool.false_eq_true, if_false, if_pos h1, slB, bndL]
    cases boundX es.length hi es.length with
    | none => rfl
    | some hh => dsimp only; cases boundX hh lo 0 <;> rfl
theorem bo_none {n d : Nat} : boundX n none d = some d := rfl
theorem bo_int {n d : Nat} {k : IntKind} {i : Int} (h0 : 0 ≤ i) (h1 : i ≤ n) : boundX n (some (.raw (.int k i))) d = some i.toNat := by
  simp only [boundX]; rw [if_pos ⟨h0, h1⟩]
theorem ints_drop {zs : List Int} {n : Nat} : (ints zs).drop n = ints (zs.drop n) := by simp [ints]
theorem ints_take {zs : List Int} {n : Nat} : (ints zs).take n = ints (zs.take n) := by simp [ints]
attribute [go_sem] slB_some bndL_some slice_sl bo_none bo_int ints_drop ints_take
theorem WC2.asm {f : FuncId} {xs : List X} {g : H2} {K : X → H2 → Prop} (c : ∀ h, S g h → (∀ x ∈ xs, Ok h g x) → WC2 P W0 f xs g K) : WC2 P W0 f xs g K := fun h s o => c h s o h s o
theorem nil_of {h : Heap} {g : H2} {f : Adr} {z : Nat} {es : List (List T)} (o : Ok h g (.sl f z es)) (hn : nilS (f []) = true) : es = [] := by
  cases o with
  | sl r =>
    cases r with
    | o h1 => rfl
    | l a c h1 h2 h3 h4 =>
      rcases h3 with ⟨_, h5⟩ | ⟨b, off, w, k, cs, rfl, _⟩
      · exact h5
      · rw [h1] at hn; cases hn
theorem flat_ints {f : Adr} : ∀ {zs : List Int} {i : Nat}, flatX f i (ints zs) = zs.map cI
  | [], _ => rfl
  | z :: zs, i => by
    have := flat_ints (f := f) (zs := zs) (i := i + 1)
    simp only [ints, List.map_cons, flatX, eI, mkL, mkC, List.cons_append, List.nil_append, cI] at *
    rw [this]
theorem src_ints {g : H2} {f : Adr} {zs : List Int} : srcX g 1 (.sl f 1 (ints zs)) = some (zs.length, zs.map cI) := by
  simp only [srcX, if_true, flat_ints, ints_len]
theorem ok_ints {zs : List Int} : (zs.map cI).all okX = true := by simp [cI, okX]
theorem append_ints {D : Nat → Option (List Nat)} {g : H2} {K : KT} {t u U y N : Nat} {xs zs : List Int} {x : X} {f : Adr} (he : Go.Ai.elt? P t = some (U, 1, y)) (hz : Go.Ai.zr? P U = some [.int .i64 0]) (hu : Go.Ai.cls? P u = some .sl)
    (hx : OwnI N g x xs) (hN0 : N ≤ hn g .mk) (hn0 : (xs.length + zs.length) * (y + 1) ≤ Go.Ai.most)
    (hk : ∀ v' g', OwnI N g' v' (xs ++ zs) → hn g .mk ≤ hn g' .mk → (∀ g0 : H2, hn g0 .mk ≤ N → g0.le g → g0.le g') → (∀ b, b < hn g .mk → blockOf x ≠ some b → hg g' b .mk = hg g b .mk) → kz K v' g' .mk) :
    az (biz P g .append [t, u] [x, .sl f 1 (ints zs)] .mk) K .mk := by
  refine append_own (z := 0) (N := N) he hz rfl hu hx hN0 src_ints (by simp) ok_ints hn0 ?_
  intro v' g' o
  refine hk v' g' ?_
  unfold OwnI
  rw [List.map_append, List.length_append]
  exact o
theorem cloneI_ok {f : Adr} {zs : List Int} {g : H2} (hn0 : zs.length ≤ 1048576) : PI Tryz.prog W0 134 [.sl f 1 (ints zs)] g zs := by
  refine WC2.asm fun hp s o => ?_
  have hnil := nil_of (o _ List.mem_cons_self)
  refine start (P := Tryz.prog) [[0], [0], [], [0]] (by kernel_rfl) Tryz.func134 rfl (by decide) (by decide +kernel) (rs := [.tmp 2]) rfl rfl (Nat.le_of_ble_eq_true rfl) ?_
  intro wf
  repeat (first | rw [kz_o] | rw [kz_r0] | simp -dsimp -implicitDefEqProofs only [go_sem, Nat.reduceBEq, Nat.reduceAdd, Nat.reduceLeDiff, Nat.reduceMul, Int.reduceLE, Int.reduceLT, Int.reduceBEq])
  refine gz_intro (fun h1 => ?_) (fun h1 => ?_)
  · have : zs = [] := by have := hnil h1; simpa [ints] using this
    subst this
    repeat (first | rw [kz_o] | rw [kz_r0] | simp -dsimp -implicitDefEqProofs only [go_sem, Nat.reduceBEq, Nat.reduceAdd, Nat.reduceLeDiff, Nat.reduceMul, Int.reduceLE, Int.reduceLT, Int.reduceBEq])
    exact ⟨H2.le.refl _, Own.nil⟩
  · repeat (first | rw [kz_o] | rw [kz_r0] | simp -dsimp -implicitDefEqProofs only [go_sem, Nat.reduceBEq, Nat.reduceAdd, Nat.reduceLeDiff, Nat.reduceMul, Int.reduceLE, Int.reduceLT, Int.reduceBEq])
    refine append_ints (D := fun _ => none) (N := hn g .mk) (xs := []) Go.Ai.ty_el27 Go.Ai.ty_zr3 Go.Ai.ty_cl27 (Own.new (Nat.le_refl _) rfl) (by simp only [hn_push]; omega) (by simp; have : Go.Ai.most = 1099511627776 := rfl; omega) ?_
    intro v' g' o' hn' hle _
    repeat (first | rw [kz_o] | rw [kz_r0] | simp -dsimp -implicitDefEqProofs only [go_sem, Nat.reduceBEq, Nat.reduceAdd, Nat.reduceLeDiff, Nat.reduceMul, Int.reduceLE, Int.reduceLT, Int.reduceBEq])
    exact ⟨hle g (Nat.le_refl _) (H2.le_push1 g _), by simpa using o'⟩
def gotI (c : LRequest) : List Int := if inI c.prompt 0 c.tokens.length = true then c.tokens.drop c.prompt.toNat else []
theorem gotI_len {c : LRequest} : (gotI c).length ≤ c.tokens.length := by unfold gotI; split <;> simp
theorem inI_t {x a b : Int} (h : inI x a b = true) : a ≤ x ∧ x ≤ b := by simpa [inI] using h
theorem implGotOf_ok {F : Nat → Adr} {c : LRequest} {g : H2} (hs : c.tokens.length ≤ 1048576) : PI Tryz.prog W0 101 [.st (xRequest F c)] g (gotI c) := by
  refine start (P := Tryz.prog) [[0], [1], [], [1]] (by kernel_rfl) Tryz.func101 rfl (by decide) (by decide +kernel) (rs := [.tmp 2]) rfl rfl (Nat.le_of_ble_eq_true rfl) ?_
  intro wf
  repeat (first | rw [kz_o] | rw [kz_r0] | simp -dsimp -implicitDefEqProofs only [go_sem, Nat.reduceBEq, Nat.reduceAdd, Nat.reduceLeDiff, Nat.reduceMul, Int.reduceLE, Int.reduceLT, Int.reduceBEq])
  refine wz_intro in_ok ?_
  rintro _ g' ⟨rfl, rfl⟩
  cases hi : inI c.prompt 0 c.tokens.length
  · repeat (first | rw [kz_o] | rw [kz_r0] | simp -dsimp -implicitDefEqProofs only [go_sem, Nat.reduceBEq, Nat.reduceAdd, Nat.reduceLeDiff, Nat.reduceMul, Int.reduceLE, Int.reduceLT, Int.reduceBEq])
    refine ⟨H2.le_push1 g _, ?_⟩
    rw [gotI, if_neg (by rw [hi]; decide)]
    exact Own.nil
  · have h1 := (inI_t hi).1
    have h2 := (inI_t hi).2
    repeat (first | rw [kz_o] | rw [kz_r0] | simp -dsimp -implicitDefEqProofs only [go_sem, Nat.reduceBEq, Nat.reduceAdd, Nat.reduceLeDiff, Nat.reduceMul, Int.reduceLE, Int.reduceLT, Int.reduceBEq, h1, h2])
    refine wz_intro (cloneI_ok (by simp; omega)) ?_
    rintro v g' ⟨l, o⟩
    repeat (first | rw [kz_o] | rw [kz_r0] | simp -dsimp -implicitDefEqProofs only [go_sem, Nat.reduceBEq, Nat.reduceAdd, Nat.reduceLeDiff, Nat.reduceMul, Int.reduceLE, Int.reduceLT, Int.reduceBEq])
    refine ⟨(H2.le_push1 g _).trans l, ?_⟩
    rw [gotI, if_pos hi, ← List.take_of_length_le (l := c.tokens.drop c.prompt.toNat) (i := c.tokens.length - c.prompt.toNat) (by simp)]
    obtain ⟨h3, h4⟩ := o
    exact ⟨h3, h4.imp_right fun ⟨b, e1, e2, e3⟩ => ⟨b, e1, by simp only [hn_push] at e2; omega, e3⟩⟩
theorem specGotOf_ok {F : Nat → Adr} {c : LRequest} {g : H2} (hs : c.tokens.length ≤ 1048576) : PI Tryz.prog W0 98 [.st (xRequest F c)] g (gotI c) := by
  refine start (P := Tryz.prog) [[0], [1], [], [1]] (by kernel_rfl) Tryz.func98 rfl (by decide) (by decide +kernel) (rs := [.tmp 2]) rfl rfl (Nat.le_of_ble_eq_true rfl) ?_
  intro wf
  repeat (first | rw [kz_o] | rw [kz_r0] | simp -dsimp -implicitDefEqProofs only [go_sem, Nat.reduceBEq, Nat.reduceAdd, Nat.reduceLeDiff, Nat.reduceMul, Int.reduceLE, Int.reduceLT, Int.reduceBEq])
  refine wz_intro l01In_ok ?_
  rintro _ g' ⟨rfl, rfl⟩
  cases hi : inI c.prompt 0 c.tokens.length
  · repeat (first | rw [kz_o] | rw [kz_r0] | simp -dsimp -implicitDefEqProofs only [go_sem, Nat.reduceBEq, Nat.reduceAdd, Nat.reduceLeDiff, Nat.reduceMul, Int.reduceLE, Int.reduceLT, Int.reduceBEq])
    refine ⟨le_push (H2.le_push1 g _), ?_⟩
    rw [gotI, if_neg (by rw [hi]; decide)]
    exact Own.new (by simp only [hn_push]; omega) rfl
  · have h1 := (inI_t hi).1
    have h2 := (inI_t hi).2
    repeat (first | rw [kz_o] | rw [kz_r0] | simp -dsimp -implicitDefEqProofs only [go_sem, Nat.reduceBEq, Nat.reduceAdd, Nat.reduceLeDiff, Nat.reduceMul, Int.reduceLE, Int.reduceLT, Int.reduceBEq, h1, h2])
    refine append_ints (D := fun _ => none) (N := hn g .mk) (xs := []) Go.Ai.ty_el27 Go.Ai.ty_zr3 Go.Ai.ty_cl27 (Own.new (by simp only [hn_push]; omega) rfl) (by simp only [hn_push]; omega) (by simp; have : Go.Ai.most = 1099511627776 := rfl; omega) ?_
    intro v' g' o' hn' hle _
    repeat (first | rw [kz_o] | rw [kz_r0] | simp -dsimp -implicitDefEqProofs only [go_sem, Nat.reduceBEq, Nat.reduceAdd, Nat.reduceLeDiff, Nat.reduceMul, Int.reduceLE, Int.reduceLT, Int.reduceBEq])
    refine ⟨hle g (Nat.le_refl _) (le_push (H2.le_push1 g _)), ?_⟩
    rw [gotI, if_pos hi, ← List.take_of_length_le (l := c.tokens.drop c.prompt.toNat) (i := c.tokens.length - c.prompt.toNat) (by simp)]
    exact o'
end Go.Bi
end
section
set_option linter.unusedSimpArgs false
set_option linter.unusedVariables false
set_option maxRecDepth 20000
namespace Go.Bi
open Go.Proofs
open Go.Ai (wrap_i64 wrap_u8 Heap)
variable {W0 : World} {P : Program}
def OwnB (N : Nat) (g : H2) (v : X) (bs : List UInt8) : Prop := Own N g v 1 bs.length (bs.map cB)
theorem cv_ownB {s d : TypeId} {N : Nat} {h : H2} {v : X} {bs : List UInt8} (hs : Go.Ai.cls? P s = some .sl) (hd : Go.Ai.cls? P d = some .str) (he : (Go.Ai.elt? P s).isSome = true) (hz : (Go.Ai.eltZ (Go.Ai.elt? P s) == 1) = true) (hc : isU8 (Go.Ai.cls? P (Go.Ai.eltT (Go.Ai.elt? P s))) = true)
    (o : OwnB N h v bs) : convz P h s d v .mk = some (.raw (.string ⟨bs.toArray⟩), h) := by
  rw [cv_src hs hd he hz hc (src_own o), bytes_map]; rfl
def byteT (n : Int) : ByteArray := ⟨#[UInt8.ofNat (n % 256).toNat]⟩
end Go.Bi
end
section
set_option linter.unusedSimpArgs false
set_option linter.unusedVariables false
set_option maxRecDepth 20000
namespace Go.Bi
open Go.Proofs
open Go.Ai (wrap_i64 wrap_u8 Heap)
variable {W0 : World} {P : Program}
theorem any_getD {α : Type} [Inhabited α] {ss : List α} {p : α → Bool} {k : Nat} (hk : k < ss.length) (h : p (ss.getD k default) = true) : ss.any p = true :=
  List.any_eq_true.2 ⟨_, List.getElem_mem hk, by rw [List.getD_eq_getElem?_getD, List.getElem?_eq_getElem hk] at h; exact h⟩
theorem any_none {α : Type} [Inhabited α] {ss : List α} {p : α → Bool} (h : ∀ j, j < ss.length → p (ss.getD j default) = false) : ss.any p = false := by
  rw [List.any_eq_false]
  intro x hx
  obtain ⟨j, hj, rfl⟩ := List.getElem_of_mem hx
  have := h j hj
  rw [List.getD_eq_getElem?_getD, List.getElem?_eq_getElem hj] at this
  simpa using this
theorem all_none {α : Type} [Inhabited α] {ss : List α} {p : α → Bool} {k : Nat} (hk : k < ss.length) (h : p (ss.getD k default) = false) : ss.all p = false := by
  rw [List.all_eq_not_any_not, any_getD hk (p := fun x => !p x) (by simp only [h]; rfl)]; rfl
theorem all_getD {α : Type} [Inhabited α] {ss : List α} {p : α → Bool} (h : ∀ j, j < ss.length → p (ss.getD j default) = true) : ss.all p = true := by
  rw [List.all_eq_not_any_not, any_none (p := fun x => !p x) (fun j hj => by simp only [h j hj]; rfl)]; rfl
theorem indexS_ok {F : FuncId} {p : ByteArray → Bool} {caps : List Value} {f : Adr} {ss : List ByteArray} {h : H2} (hn0 : ss.length ≤ 9223372036854775807)
    (hf : ∀ s, WC2 Tryz.prog W0 F ([.raw (.string s)] ++ caps.map .raw) h (fun v h' => v = .raw (.bool (p s)) ∧ h' = h)) :
    WC2 Tryz.prog W0 213 [.sl f 1 (strs ss), .raw (.func (.func F) #[] caps.toArray)] h (fun v h' => (∃ k : Int, v = .raw (.int .i64 k) ∧ decide (0 ≤ k) = ss.any p) ∧ h' = h) := by
  refine start (P := Tryz.prog) [[0, 1], [0, 1], [0, 1, 7, 8], [0, 1, 7, 8], [0, 1, 5, 7, 8], [5], [0, 1, 7, 8], []] (by kernel_rfl) Tryz.func213 rfl (by decide) (by decide +kernel) (rs := [.tmp 4]) rfl rfl (Nat.le_of_ble_eq_true rfl) ?_
  intro wf
  repeat (first | rw [kz_o] | rw [kz_r0] | simp -dsimp -implicitDefEqProofs only [go_sem, Nat.reduceBEq, Nat.reduceAdd, Nat.reduceLeDiff, Nat.reduceMul, Int.reduceLE, Int.reduceLT, Int.reduceBEq])
  refine lz_keep [0, 1, 7] (fun m e h' => h' = h ∧ ∃ k : Nat, look e 8 .mk = .raw (.int .i64 k) ∧ m + k = ss.length ∧ ∀ j : Nat, j < k → p (ss.getD j default) = false) ss.length ?_ ?_
  · exact ⟨rfl, 0, by simp -dsimp -implicitDefEqProofs only [go_sem, Nat.reduceBEq, Nat.reduceAdd, Nat.reduceLeDiff, Nat.reduceMul, Int.reduceLE, Int.reduceLT, Int.reduceBEq], by omega, fun j hj => by omega⟩
  · rintro m e h hks ⟨rfl, k, e8, hk, hpre⟩
    simp -dsimp -implicitDefEqProofs only [go_sem, Nat.reduceBEq, Nat.reduceAdd, Nat.reduceLeDiff, Nat.reduceMul, Int.reduceLE, Int.reduceLT, Int.reduceBEq] at hks
    repeat (first | rw [kz_o] | rw [kz_r0] | simp -dsimp -implicitDefEqProofs only [go_sem, Nat.reduceBEq, Nat.reduceAdd, Nat.reduceLeDiff, Nat.reduceMul, Int.reduceLE, Int.reduceLT, Int.reduceBEq, hks, e8])
    refine gz_dec (fun h2 => ?_) (fun h2 => ?_)
    · have h3 : k < ss.length := by omega
      repeat (first | rw [kz_o] | rw [kz_r0] | simp -dsimp -implicitDefEqProofs only [go_sem, Nat.reduceBEq, Nat.reduceAdd, Nat.reduceLeDiff, Nat.reduceMul, Int.reduceLE, Int.reduceLT, Int.reduceBEq, hks, e8, h3])
      refine wz_intro (hf _) ?_
      rintro _ h' ⟨rfl, rfl⟩
      repeat (first | rw [kz_o] | rw [kz_r0] | simp -dsimp -implicitDefEqProofs only [go_sem, Nat.reduceBEq, Nat.reduceAdd, Nat.reduceLeDiff, Nat.reduceMul, Int.reduceLE, Int.reduceLT, Int.reduceBEq, hks, e8])
      refine gz_intro (fun h4 => ?_) (fun h4 => ?_)
      · repeat (first | rw [kz_o] | rw [kz_r0] | simp -dsimp -implicitDefEqProofs only [go_sem, Nat.reduceBEq, Nat.reduceAdd, Nat.reduceLeDiff, Nat.reduceMul, Int.reduceLE, Int.reduceLT, Int.reduceBEq, hks, e8])
        exact ⟨⟨_, rfl, by rw [any_getD h3 h4]; simp⟩, rfl⟩
      · repeat (first | rw [kz_o] | rw [kz_r0] | simp -dsimp -implicitDefEqProofs only [go_sem, Nat.reduceBEq, Nat.reduceAdd, Nat.reduceLeDiff, Nat.reduceMul, Int.reduceLE, Int.reduceLT, Int.reduceBEq, hks, e8, wrap_succ h3 hn0])
        refine nx_keep (m - 1) (by omega) (by simp -dsimp -implicitDefEqProofs only [go_sem, Nat.reduceBEq, Nat.reduceAdd, Nat.reduceLeDiff, Nat.reduceMul, Int.reduceLE, Int.reduceLT, Int.reduceBEq, hks]) ⟨rfl, k + 1, by simp -dsimp -implicitDefEqProofs only [go_sem, Nat.reduceBEq, Nat.reduceAdd, Nat.reduceLeDiff, Nat.reduceMul, Int.reduceLE, Int.reduceLT, Int.reduceBEq], by omega, fun j hj => ?_⟩
        by_cases hji : j = k
        · subst hji; exact h4
        · exact hpre j (by omega)
    · repeat (first | rw [kz_o] | rw [kz_r0] | simp -dsimp -implicitDefEqProofs only [go_sem, Nat.reduceBEq, Nat.reduceAdd, Nat.reduceLeDiff, Nat.reduceMul, Int.reduceLE, Int.reduceLT, Int.reduceBEq, hks, e8])
      exact ⟨⟨_, rfl, by rw [any_none fun j hj => hpre j (by omega)]; rfl⟩, rfl⟩
theorem containsS_ok {F : FuncId} {p : ByteArray → Bool} {caps : List Value} {f : Adr} {ss : List ByteArray} {h : H2} (hn0 : ss.length ≤ 9223372036854775807)
    (hf : ∀ s, WC2 Tryz.prog W0 F ([.raw (.string s)] ++ caps.map .raw) h (fun v h' => v = .raw (.bool (p s)) ∧ h' = h)) :
    WC2 Tryz.prog W0 152 [.sl f 1 (strs ss), .raw (.func (.func F) #[] caps.toArray)] h (fun v h' => v = .raw (.bool (ss.any p)) ∧ h' = h) := by
  refine start (P := Tryz.prog) [[0, 1], [0, 1]] (by kernel_rfl) Tryz.func152 rfl (by decide) (by decide +kernel) (rs := [.tmp 4]) rfl rfl (Nat.le_of_ble_eq_true rfl) ?_
  intro wf
  repeat (first | rw [kz_o] | rw [kz_r0] | simp -dsimp -implicitDefEqProofs only [go_sem, Nat.reduceBEq, Nat.reduceAdd, Nat.reduceLeDiff, Nat.reduceMul, Int.reduceLE, Int.reduceLT, Int.reduceBEq])
  refine wz_intro (indexS_ok hn0 hf) ?_
  rintro _ h' ⟨⟨k, rfl, hk⟩, rfl⟩
  repeat (first | rw [kz_o] | rw [kz_r0] | simp -dsimp -implicitDefEqProofs only [go_sem, Nat.reduceBEq, Nat.reduceAdd, Nat.reduceLeDiff, Nat.reduceMul, Int.reduceLE, Int.reduceLT, Int.reduceBEq, hk])
  exact ⟨rfl, rfl⟩
theorem containsI_ok {F : FuncId} {p : Int → Bool} {caps : List Value} {f : Adr} {ss : List Int} {h : H2} (hn0 : ss.length ≤ 9223372036854775807)
    (hf : ∀ s, WC2 Tryz.prog W0 F ([.raw (.int .i64 s)] ++ caps.map .raw) h (fun v h' => v = .raw (.bool (p s)) ∧ h' = h)) :
    WC2 Tryz.prog W0 154 [.sl f 1 (ints ss), .raw (.func (.func F) #[] caps.toArray)] h (fun v h' => v = .raw (.bool (ss.any p)) ∧ h' = h) := by
  refine start (P := Tryz.prog) [[0, 1], [0, 1]] (by kernel_rfl) Tryz.func154 rfl (by decide) (by decide +kernel) (rs := [.tmp 4]) rfl rfl (Nat.le_of_ble_eq_true rfl) ?_
  intro wf
  repeat (first | rw [kz_o] | rw [kz_r0] | simp -dsimp -implicitDefEqProofs only [go_sem, Nat.reduceBEq, Nat.reduceAdd, Nat.reduceLeDiff, Nat.reduceMul, Int.reduceLE, Int.reduceLT, Int.reduceBEq])
  refine wz_intro (indexI_ok hn0 hf) ?_
  rintro _ h' ⟨⟨k, rfl, hk⟩, rfl⟩
  repeat (first | rw [kz_o] | rw [kz_r0] | simp -dsimp -implicitDefEqProofs only [go_sem, Nat.reduceBEq, Nat.reduceAdd, Nat.reduceLeDiff, Nat.reduceMul, Int.reduceLE, Int.reduceLT, Int.reduceBEq, hk])
  exact ⟨rfl, rfl⟩
theorem allIn1_ok {b1 b2 z1 z2 : Nat} {x y : Int} {h : H2} (h1 : hg h b1 .mk = some ⟨z1, [.raw (.int .i64 x)]⟩) (h2 : hg h b2 .mk = some ⟨z2, [.raw (.int .i64 y)]⟩) (s : Int) :
    WC2 Tryz.prog W0 155 ([.raw (.int .i64 s)] ++ [Value.pointer (some ⟨b1, 0, none⟩), .pointer (some ⟨b2, 0, none⟩)].map .raw) h (fun v h' => v = .raw (.bool (!inI s x y)) ∧ h' = h) := by
  simp only [List.cons_append, List.nil_append, List.map_cons, List.map_nil]
  refine start (P := Tryz.prog) [[0, 1, 2], [0, 1, 2]] (by kernel_rfl) Tryz.func155 rfl (by decide) (by decide +kernel) (rs := [.tmp 4]) rfl rfl (Nat.le_of_ble_eq_true rfl) ?_
  intro wf
  repeat (first | rw [kz_o] | rw [kz_r0] | simp -dsimp -implicitDefEqProofs only [go_sem, Nat.reduceBEq, Nat.reduceAdd, Nat.reduceLeDiff, Nat.reduceMul, Int.reduceLE, Int.reduceLT, Int.reduceBEq, h1, h2])
  refine wz_intro in_ok ?_
  rintro _ h' ⟨rfl, rfl⟩
  repeat (first | rw [kz_o] | rw [kz_r0] | simp -dsimp -implicitDefEqProofs only [go_sem, Nat.reduceBEq, Nat.reduceAdd, Nat.reduceLeDiff, Nat.reduceMul, Int.reduceLE, Int.reduceLT, Int.reduceBEq])
  exact ⟨rfl, rfl⟩
def allI (zs : List Int) (x y : Int) : Bool := zs.all fun s => inI s x y
theorem allIn_ok {f : Adr} {zs : List Int} {x y : Int} {h : H2} (hn0 : zs.length ≤ 9223372036854775807) :
    PW Tryz.prog W0 59 [.sl f 1 (ints zs), .raw (.int .i64 x), .raw (.int .i64 y)] h (fun r => r = .raw (.bool (allI zs x y))) := by
  refine PW.scalar ?_
  refine start (P := Tryz.prog) [[0, 1, 2], [0, 4, 5]] (by kernel_rfl) Tryz.func59 rfl (by decide) (by decide +kernel) (rs := [.tmp 6]) rfl rfl (Nat.le_of_ble_eq_true rfl) ?_
  intro wf
  repeat (first | rw [kz_o] | rw [kz_r0] | simp -dsimp -implicitDefEqProofs only [go_sem, Nat.reduceBEq, Nat.reduceAdd, Nat.reduceLeDiff, Nat.reduceMul, Int.reduceLE, Int.reduceLT, Int.reduceBEq])
  refine wz_intro (containsI_ok hn0 (allIn1_ok (x := x) (y := y) (z1 := 1) (z2 := 1) ?_ ?_)) ?_
  · simp -dsimp -implicitDefEqProofs only [go_sem, Nat.reduceBEq, Nat.reduceAdd, Nat.reduceLeDiff, Nat.reduceMul, Int.reduceLE, Int.reduceLT, Int.reduceBEq]
  · simp -dsimp -implicitDefEqProofs only [go_sem, Nat.reduceBEq, Nat.reduceAdd, Nat.reduceLeDiff, Nat.reduceMul, Int.reduceLE, Int.reduceLT, Int.reduceBEq]
  rintro _ h' ⟨rfl, rfl⟩
  repeat (first | rw [kz_o] | rw [kz_r0] | simp -dsimp -implicitDefEqProofs only [go_sem, Nat.reduceBEq, Nat.reduceAdd, Nat.reduceLeDiff, Nat.reduceMul, Int.reduceLE, Int.reduceLT, Int.reduceBEq])
  exact ⟨le_push (H2.le_push1 h _), ⟨_, rfl⟩, by rw [allI, List.all_eq_not_any_not]⟩
theorem l05All_ok {f : Adr} {zs : List Int} {x y : Int} {h : H2} (hn0 : zs.length ≤ 9223372036854775807) :
    PW Tryz.prog W0 139 [.sl f 1 (ints zs), .raw (.int .i64 x), .raw (.int .i64 y)] h (fun r => r = .raw (.bool (allI zs x y))) := by
  refine PW.scalar ?_
  refine start (P := Tryz.prog) [[0, 1, 2], [0, 1, 2], [0, 1, 2, 7], [0, 1, 2, 7], [0, 1, 2, 7], [], []] (by kernel_rfl) Tryz.func139 rfl (by decide) (by decide +kernel) (rs := [.tmp 6]) rfl rfl (Nat.le_of_ble_eq_true rfl) ?_
  intro wf
  repeat (first | rw [kz_o] | rw [kz_r0] | simp -dsimp -implicitDefEqProofs only [go_sem, Nat.reduceBEq, Nat.reduceAdd, Nat.reduceLeDiff, Nat.reduceMul, Int.reduceLE, Int.reduceLT, Int.reduceBEq])
  refine lz_keep [0, 1, 2] (fun m e h' => h' = h ∧ ∃ k : Nat, look e 7 .mk = .raw (.int .i64 k) ∧ m + k = zs.length ∧ ∀ j : Nat, j < k → inI (zs.getD j default) x y = true) zs.length ?_ ?_
  · exact ⟨rfl, 0, by simp -dsimp -implicitDefEqProofs only [go_sem, Nat.reduceBEq, Nat.reduceAdd, Nat.reduceLeDiff, Nat.reduceMul, Int.reduceLE, Int.reduceLT, Int.reduceBEq], by omega, fun j hj => by omega⟩
  · rintro m e h hks ⟨rfl, k, e4, hk, hpre⟩
    simp -dsimp -implicitDefEqProofs only [go_sem, Nat.reduceBEq, Nat.reduceAdd, Nat.reduceLeDiff, Nat.reduceMul, Int.reduceLE, Int.reduceLT, Int.reduceBEq] at hks
    repeat (first | rw [kz_o] | rw [kz_r0] | simp -dsimp -implicitDefEqProofs only [go_sem, Nat.reduceBEq, Nat.reduceAdd, Nat.reduceLeDiff, Nat.reduceMul, Int.reduceLE, Int.reduceLT, Int.reduceBEq, hks, e4])
    refine gz_dec (fun h2 => ?_) (fun h2 => ?_)
    · have h3 : k < zs.length := by omega
      repeat (first | rw [kz_o] | rw [kz_r0] | simp -dsimp -implicitDefEqProofs only [go_sem, Nat.reduceBEq, Nat.reduceAdd, Nat.reduceLeDiff, Nat.reduceMul, Int.reduceLE, Int.reduceLT, Int.reduceBEq, hks, e4, h3])
      refine wz_intro l01In_ok ?_
      rintro _ h' ⟨rfl, rfl⟩
      cases hi : inI (zs.getD k default) x y
      · repeat (first | rw [kz_o] | rw [kz_r0] | simp -dsimp -implicitDefEqProofs only [go_sem, Nat.reduceBEq, Nat.reduceAdd, Nat.reduceLeDiff, Nat.reduceMul, Int.reduceLE, Int.reduceLT, Int.reduceBEq])
        exact ⟨H2.le.refl _, ⟨_, rfl⟩, by rw [allI, all_none h3 hi]⟩
      · repeat (first | rw [kz_o] | rw [kz_r0] | simp -dsimp -implicitDefEqProofs only [go_sem, Nat.reduceBEq, Nat.reduceAdd, Nat.reduceLeDiff, Nat.reduceMul, Int.reduceLE, Int.reduceLT, Int.reduceBEq, hks, e4, wrap_succ h3 hn0])
        refine nx_keep (m - 1) (by omega) (by simp -dsimp -implicitDefEqProofs only [go_sem, Nat.reduceBEq, Nat.reduceAdd, Nat.reduceLeDiff, Nat.reduceMul, Int.reduceLE, Int.reduceLT, Int.reduceBEq, hks]) ⟨rfl, k + 1, by simp -dsimp -implicitDefEqProofs only [go_sem, Nat.reduceBEq, Nat.reduceAdd, Nat.reduceLeDiff, Nat.reduceMul, Int.reduceLE, Int.reduceLT, Int.reduceBEq], by omega, fun j hj => ?_⟩
        by_cases hji : j = k
        · subst hji; exact hi
        · exact hpre j (by omega)
    · repeat (first | rw [kz_o] | rw [kz_r0] | simp -dsimp -implicitDefEqProofs only [go_sem, Nat.reduceBEq, Nat.reduceAdd, Nat.reduceLeDiff, Nat.reduceMul, Int.reduceLE, Int.reduceLT, Int.reduceBEq, hks, e4])
      exact ⟨H2.le.refl _, ⟨_, rfl⟩, by rw [allI, all_getD fun j hj => hpre j (by omega)]⟩
def stopsOk (ss : List ByteArray) : Bool := ss.all fun s => inI s.size 1 8
def cfgOk (c : LConfig) : Bool := inI c.top 1 8 && (inI c.seed 0 1000000000 && (inI c.new 1 24 && (decide ((c.stops.length : Int) ≤ 3) && stopsOk c.stops)))
theorem cfg1_ok (s : ByteArray) {h : H2} : WC2 Tryz.prog W0 153 ([.raw (.string s)] ++ ([] : List Value).map .raw) h (fun v h' => v = .raw (.bool (!inI s.size 1 8)) ∧ h' = h) := by
  simp only [List.cons_append, List.nil_append, List.map_nil, List.append_nil]
  refine start (P := Tryz.prog) [[0], [0]] (by kernel_rfl) Tryz.func153 rfl (by decide) (by decide +kernel) (rs := [.tmp 2]) rfl rfl (Nat.le_of_ble_eq_true rfl) ?_
  intro wf
  repeat (first | rw [kz_o] | rw [kz_r0] | simp -dsimp -implicitDefEqProofs only [go_sem, Nat.reduceBEq, Nat.reduceAdd, Nat.reduceLeDiff, Nat.reduceMul, Int.reduceLE, Int.reduceLT, Int.reduceBEq])
  refine wz_intro in_ok ?_
  rintro _ h' ⟨rfl, rfl⟩
  repeat (first | rw [kz_o] | rw [kz_r0] | simp -dsimp -implicitDefEqProofs only [go_sem, Nat.reduceBEq, Nat.reduceAdd, Nat.reduceLeDiff, Nat.reduceMul, Int.reduceLE, Int.reduceLT, Int.reduceBEq])
  exact ⟨rfl, rfl⟩
theorem implConfigOk_ok {F : Nat → Adr} {c : LConfig} {h : H2} (hn0 : c.stops.length ≤ 9223372036854775807) : PW Tryz.prog W0 58 [.st (xConfig F c)] h (fun r => r = .raw (.bool (cfgOk c))) := by
  refine PW.scalar ?_
  refine start (P := Tryz.prog) [[0], [1]] (by kernel_rfl) Tryz.func58 rfl (by decide) (by decide +kernel) (rs := [.tmp 2]) rfl rfl (Nat.le_of_ble_eq_true rfl) ?_
  intro wf
  repeat (first | rw [kz_o] | rw [kz_r0] | simp -dsimp -implicitDefEqProofs only [go_sem, Nat.reduceBEq, Nat.reduceAdd, Nat.reduceLeDiff, Nat.reduceMul, Int.reduceLE, Int.reduceLT, Int.reduceBEq])
  refine wz_intro in_ok ?_
  rintro _ h' ⟨rfl, rfl⟩
  unfold cfgOk
  cases h1 : inI c.top 1 8
  · repeat (first | rw [kz_o] | rw [kz_r0] | simp -dsimp -implicitDefEqProofs only [go_sem, Nat.reduceBEq, Nat.reduceAdd, Nat.reduceLeDiff, Nat.reduceMul, Int.reduceLE, Int.reduceLT, Int.reduceBEq])
    exact ⟨H2.le_push1 h _, ⟨_, rfl⟩, rfl⟩
  repeat (first | rw [kz_o] | rw [kz_r0] | simp -dsimp -implicitDefEqProofs only [go_sem, Nat.reduceBEq, Nat.reduceAdd, Nat.reduceLeDiff, Nat.reduceMul, Int.reduceLE, Int.reduceLT, Int.reduceBEq])
  refine wz_intro in_ok ?_
  rintro _ h' ⟨rfl, rfl⟩
  cases h2 : inI c.seed 0 1000000000
  · repeat (first | rw [kz_o] | rw [kz_r0] | simp -dsimp -implicitDefEqProofs only [go_sem, Nat.reduceBEq, Nat.reduceAdd, Nat.reduceLeDiff, Nat.reduceMul, Int.reduceLE, Int.reduceLT, Int.reduceBEq])
    exact ⟨H2.le_push1 h _, ⟨_, rfl⟩, rfl⟩
  repeat (first | rw [kz_o] | rw [kz_r0] | simp -dsimp -implicitDefEqProofs only [go_sem, Nat.reduceBEq, Nat.reduceAdd, Nat.reduceLeDiff, Nat.reduceMul, Int.reduceLE, Int.reduceLT, Int.reduceBEq])
  refine wz_intro in_ok ?_
  rintro _ h' ⟨rfl, rfl⟩
  cases h3 : inI c.new 1 24
  · repeat (first | rw [kz_o] | rw [kz_r0] | simp -dsimp -implicitDefEqProofs only [go_sem, Nat.reduceBEq, Nat.reduceAdd, Nat.reduceLeDiff, Nat.reduceMul, Int.reduceLE, Int.reduceLT, Int.reduceBEq])
    exact ⟨H2.le_push1 h _, ⟨_, rfl⟩, rfl⟩
  repeat (first | rw [kz_o] | rw [kz_r0] | simp -dsimp -implicitDefEqProofs only [go_sem, Nat.reduceBEq, Nat.reduceAdd, Nat.reduceLeDiff, Nat.reduceMul, Int.reduceLE, Int.reduceLT, Int.reduceBEq])
  refine gz_dec (fun h4 => ?_) (fun h4 => ?_)
  · repeat (first | rw [kz_o] | rw [kz_r0] | simp -dsimp -implicitDefEqProofs only [go_sem, Nat.reduceBEq, Nat.reduceAdd, Nat.reduceLeDiff, Nat.reduceMul, Int.reduceLE, Int.reduceLT, Int.reduceBEq, h4])
    refine wz_intro (containsS_ok (caps := []) hn0 (fun s => cfg1_ok s)) ?_
    rintro _ h' ⟨rfl, rfl⟩
    repeat (first | rw [kz_o] | rw [kz_r0] | simp -dsimp -implicitDefEqProofs only [go_sem, Nat.reduceBEq, Nat.reduceAdd, Nat.reduceLeDiff, Nat.reduceMul, Int.reduceLE, Int.reduceLT, Int.reduceBEq, h4])
    exact ⟨H2.le_push1 h _, ⟨_, rfl⟩, by simp only [stopsOk, List.all_eq_not_any_not, h4, decide_true, Bool.true_and]⟩
  · repeat (first | rw [kz_o] | rw [kz_r0] | simp -dsimp -implicitDefEqProofs only [go_sem, Nat.reduceBEq, Nat.reduceAdd, Nat.reduceLeDiff, Nat.reduceMul, Int.reduceLE, Int.reduceLT, Int.reduceBEq, h4])
    exact ⟨H2.le_push1 h _, ⟨_, rfl⟩, by simp only [h4, decide_false, Bool.true_and, Bool.false_and]⟩
theorem specConfigOk_ok {F : Nat → Adr} {c : LConfig} {h : H2} (hn0 : c.stops.length ≤ 9223372036854775807) : PW Tryz.prog W0 158 [.st (xConfig F c)] h (fun r => r = .raw (.bool (cfgOk c))) := by
  refine PW.scalar ?_
  refine start (P := Tryz.prog) [[0], [1], [], [1], [1, 3], [1, 3], [1, 3], [], []] (by kernel_rfl) Tryz.func158 rfl (by decide) (by decide +kernel) (rs := [.tmp 2]) rfl rfl (Nat.le_of_ble_eq_true rfl) ?_
  intro wf
  repeat (first | rw [kz_o] | rw [kz_r0] | simp -dsimp -implicitDefEqProofs only [go_sem, Nat.reduceBEq, Nat.reduceAdd, Nat.reduceLeDiff, Nat.reduceMul, Int.reduceLE, Int.reduceLT, Int.reduceBEq])
  refine wz_intro l01In_ok ?_
  rintro _ h' ⟨rfl, rfl⟩
  unfold cfgOk
  cases h1 : inI c.top 1 8
  · repeat (first | rw [kz_o] | rw [kz_r0] | simp -dsimp -implicitDefEqProofs only [go_sem, Nat.reduceBEq, Nat.reduceAdd, Nat.reduceLeDiff, Nat.reduceMul, Int.reduceLE, Int.reduceLT, Int.reduceBEq])
    exact ⟨H2.le_push1 h _, ⟨_, rfl⟩, rfl⟩
  repeat (first | rw [kz_o] | rw [kz_r0] | simp -dsimp -implicitDefEqProofs only [go_sem, Nat.reduceBEq, Nat.reduceAdd, Nat.reduceLeDiff, Nat.reduceMul, Int.reduceLE, Int.reduceLT, Int.reduceBEq])
  refine wz_intro l01In_ok ?_
  rintro _ h' ⟨rfl, rfl⟩
  cases h2 : inI c.seed 0 1000000000
  · repeat (first | rw [kz_o] | rw [kz_r0] | simp -dsimp -implicitDefEqProofs only [go_sem, Nat.reduceBEq, Nat.reduceAdd, Nat.reduceLeDiff, Nat.reduceMul, Int.reduceLE, Int.reduceLT, Int.reduceBEq])
    exact ⟨H2.le_push1 h _, ⟨_, rfl⟩, rfl⟩
  repeat (first | rw [kz_o] | rw [kz_r0] | simp -dsimp -implicitDefEqProofs only [go_sem, Nat.reduceBEq, Nat.reduceAdd, Nat.reduceLeDiff, Nat.reduceMul, Int.reduceLE, Int.reduceLT, Int.reduceBEq])
  refine wz_intro l01In_ok ?_
  rintro _ h' ⟨rfl, rfl⟩
  cases h3 : inI c.new 1 24
  · repeat (first | rw [kz_o] | rw [kz_r0] | simp -dsimp -implicitDefEqProofs only [go_sem, Nat.reduceBEq, Nat.reduceAdd, Nat.reduceLeDiff, Nat.reduceMul, Int.reduceLE, Int.reduceLT, Int.reduceBEq])
    exact ⟨H2.le_push1 h _, ⟨_, rfl⟩, rfl⟩
  repeat (first | rw [kz_o] | rw [kz_r0] | simp -dsimp -implicitDefEqProofs only [go_sem, Nat.reduceBEq, Nat.reduceAdd, Nat.reduceLeDiff, Nat.reduceMul, Int.reduceLE, Int.reduceLT, Int.reduceBEq])
  refine gz_dec (fun h4 => ?_) (fun h4 => ?_)
  · have h5 : ¬ (c.stops.length : Int) ≤ 3 := by omega
    repeat (first | rw [kz_o] | rw [kz_r0] | simp -dsimp -implicitDefEqProofs only [go_sem, Nat.reduceBEq, Nat.reduceAdd, Nat.reduceLeDiff, Nat.reduceMul, Int.reduceLE, Int.reduceLT, Int.reduceBEq, h4])
    exact ⟨H2.le_push1 h _, ⟨_, rfl⟩, by simp [h5]⟩
  · have h5 : (c.stops.length : Int) ≤ 3 := by omega
    repeat (first | rw [kz_o] | rw [kz_r0] | simp -dsimp -implicitDefEqProofs only [go_sem, Nat.reduceBEq, Nat.reduceAdd, Nat.reduceLeDiff, Nat.reduceMul, Int.reduceLE, Int.reduceLT, Int.reduceBEq, h4])
    refine lz_keep [1] (fun m e h' => h' = h.push ⟨4, xConfig F c⟩ ∧ ∃ k : Nat, look e 3 .mk = .raw (.int .i64 k) ∧ m + k = c.stops.length ∧ ∀ j : Nat, j < k → inI (c.stops.getD j default).size 1 8 = true) c.stops.length ?_ ?_
    · exact ⟨by simp only [xConfig], 0, by simp -dsimp -implicitDefEqProofs only [go_sem, Nat.reduceBEq, Nat.reduceAdd, Nat.reduceLeDiff, Nat.reduceMul, Int.reduceLE, Int.reduceLT, Int.reduceBEq], by omega, fun j hj => by omega⟩
    · rintro m e h hks ⟨rfl, k, e4, hk, hpre⟩
      simp -dsimp -implicitDefEqProofs only [go_sem, Nat.reduceBEq, Nat.reduceAdd, Nat.reduceLeDiff, Nat.reduceMul, Int.reduceLE, Int.reduceLT, Int.reduceBEq] at hks
      repeat (first | rw [kz_o] | rw [kz_r0] | simp -dsimp -implicitDefEqProofs only [go_sem, Nat.reduceBEq, Nat.reduceAdd, Nat.reduceLeDiff, Nat.reduceMul, Int.reduceLE, Int.reduceLT, Int.reduceBEq, hks, e4])
      refine gz_dec (fun h2 => ?_) (fun h2 => ?_)
      · have h3 : k < c.stops.length := by omega
        repeat (first | rw [kz_o] | rw [kz_r0] | simp -dsimp -implicitDefEqProofs only [go_sem, Nat.reduceBEq, Nat.reduceAdd, Nat.reduceLeDiff, Nat.reduceMul, Int.reduceLE, Int.reduceLT, Int.reduceBEq, hks, e4, h3])
        refine wz_intro l01In_ok ?_
        rintro _ h' ⟨rfl, rfl⟩
        cases hi : inI (c.stops.getD k default).size 1 8
        · repeat (first | rw [kz_o] | rw [kz_r0] | simp -dsimp -implicitDefEqProofs only [go_sem, Nat.reduceBEq, Nat.reduceAdd, Nat.reduceLeDiff, Nat.reduceMul, Int.reduceLE, Int.reduceLT, Int.reduceBEq])
          exact ⟨H2.le_push1 _ _, ⟨_, rfl⟩, by rw [stopsOk, all_none h3 hi]; simp⟩
        · repeat (first | rw [kz_o] | rw [kz_r0] | simp -dsimp -implicitDefEqProofs only [go_sem, Nat.reduceBEq, Nat.reduceAdd, Nat.reduceLeDiff, Nat.reduceMul, Int.reduceLE, Int.reduceLT, Int.reduceBEq, hks, e4, wrap_succ h3 hn0])
          refine nx_keep (m - 1) (by omega) (by simp -dsimp -implicitDefEqProofs only [go_sem, Nat.reduceBEq, Nat.reduceAdd, Nat.reduceLeDiff, Nat.reduceMul, Int.reduceLE, Int.reduceLT, Int.reduceBEq, hks]) ⟨rfl, k + 1, by simp -dsimp -implicitDefEqProofs only [go_sem, Nat.reduceBEq, Nat.reduceAdd, Nat.reduceLeDiff, Nat.reduceMul, Int.reduceLE, Int.reduceLT, Int.reduceBEq], by omega, fun j hj => ?_⟩
          by_cases hji : j = k
          · subst hji; exact hi
          · exact hpre j (by omega)
      · repeat (first | rw [kz_o] | rw [kz_r0] | simp -dsimp -implicitDefEqProofs only [go_sem, Nat.reduceBEq, Nat.reduceAdd, Nat.reduceLeDiff, Nat.reduceMul, Int.reduceLE, Int.reduceLT, Int.reduceBEq, hks, e4])
        exact ⟨H2.le_push1 _ _, ⟨_, rfl⟩, by rw [stopsOk, all_getD fun j hj => hpre j (by omega)]; simp [h5]⟩
end Go.Bi
end
section
set_option linter.unusedSimpArgs false
set_option linter.unusedVariables false
set_option maxRecDepth 20000
namespace Go.Bi
open Go.Proofs
open Go.Ai (wrap_i64 wrap_u8 Heap)
variable {W0 : World} {P : Program}
set_option maxHeartbeats 2000000
def widthB (n : Int) : Bool := inI n 4 8 && decide (Int.tmod n 4 = 0)
def rowB (r s : List Int) : Bool := widthB r.length && (allI r (-8) 7 && (decide ((s.length : Int) = Int.tdiv r.length 4) && allI s 1 127))
def gainB (r : List Int) (n : Int) : Bool := decide ((r.length : Int) = n) && allI r 0 127
theorem isWidth_ok {n : Int} {h : H2} : WC2 Tryz.prog W0 122 [.raw (.int .i64 n)] h (fun v h' => v = .raw (.bool (widthB n)) ∧ h' = h) := by
  refine start (P := Tryz.prog) [[0], [0]] (by kernel_rfl) Tryz.func122 rfl (by decide) (by decide +kernel) (rs := [.tmp 2]) rfl rfl (Nat.le_of_ble_eq_true rfl) ?_
  intro wf
  repeat (first | rw [kz_o] | rw [kz_r0] | simp -dsimp -implicitDefEqProofs only [go_sem, Nat.reduceBEq, Nat.reduceAdd, Nat.reduceLeDiff, Nat.reduceMul, Int.reduceLE, Int.reduceLT, Int.reduceBEq])
  refine wz_intro in_ok ?_
  rintro _ h' ⟨rfl, rfl⟩
  cases hb : inI n 4 8
  · repeat (first | rw [kz_o] | rw [kz_r0] | simp -dsimp -implicitDefEqProofs only [go_sem, Nat.reduceBEq, Nat.reduceAdd, Nat.reduceLeDiff, Nat.reduceMul, Int.reduceLE, Int.reduceLT, Int.reduceBEq])
    exact ⟨by rw [widthB, hb]; rfl, rfl⟩
  · repeat (first | rw [kz_o] | rw [kz_r0] | simp -dsimp -implicitDefEqProofs only [go_sem, Nat.reduceBEq, Nat.reduceAdd, Nat.reduceLeDiff, Nat.reduceMul, Int.reduceLE, Int.reduceLT, Int.reduceBEq])
    exact ⟨by rw [widthB, hb]; rfl, rfl⟩
theorem l05Width_ok {n : Int} {h : H2} : WC2 Tryz.prog W0 136 [.raw (.int .i64 n)] h (fun v h' => v = .raw (.bool (widthB n)) ∧ h' = h) := by
  refine start (P := Tryz.prog) [[0], [0]] (by kernel_rfl) Tryz.func136 rfl (by decide) (by decide +kernel) (rs := [.tmp 2]) rfl rfl (Nat.le_of_ble_eq_true rfl) ?_
  intro wf
  repeat (first | rw [kz_o] | rw [kz_r0] | simp -dsimp -implicitDefEqProofs only [go_sem, Nat.reduceBEq, Nat.reduceAdd, Nat.reduceLeDiff, Nat.reduceMul, Int.reduceLE, Int.reduceLT, Int.reduceBEq])
  refine wz_intro l01In_ok ?_
  rintro _ h' ⟨rfl, rfl⟩
  cases hb : inI n 4 8
  · repeat (first | rw [kz_o] | rw [kz_r0] | simp -dsimp -implicitDefEqProofs only [go_sem, Nat.reduceBEq, Nat.reduceAdd, Nat.reduceLeDiff, Nat.reduceMul, Int.reduceLE, Int.reduceLT, Int.reduceBEq])
    exact ⟨by rw [widthB, hb]; rfl, rfl⟩
  · repeat (first | rw [kz_o] | rw [kz_r0] | simp -dsimp -implicitDefEqProofs only [go_sem, Nat.reduceBEq, Nat.reduceAdd, Nat.reduceLeDiff, Nat.reduceMul, Int.reduceLE, Int.reduceLT, Int.reduceBEq])
    exact ⟨by rw [widthB, hb]; rfl, rfl⟩
theorem width_rng {n : Int} (h : widthB n = true) : n = 4 ∨ n = 8 := by
  unfold widthB inI at h
  simp only [Bool.and_eq_true, decide_eq_true_eq] at h
  obtain ⟨⟨h1, h2⟩, h3⟩ := h
  have h4 : n = 4 ∨ n = 5 ∨ n = 6 ∨ n = 7 ∨ n = 8 := by omega
  rcases h4 with rfl | rfl | rfl | rfl | rfl <;> first | exact .inl rfl | exact .inr rfl | exact absurd h3 (by decide)
theorem quo_len {n : Nat} (h : widthB n = true) : IntKind.i64.wrap (Int.tdiv (n : Int) 4) = Int.tdiv (n : Int) 4 := by
  rcases width_rng h with h | h <;> rw [h] <;> decide
theorem rowOk_ok {f f' : Adr} {r s : List Int} {g : H2} (hr : r.length ≤ 1048576) (hs : s.length ≤ 1048576) : PW Tryz.prog W0 237 [.sl f 1 (ints r), .sl f' 1 (ints s)] g (fun y => y = .raw (.bool (rowB r s))) := by
  refine PW.scalar ?_
  refine start (P := Tryz.prog) [[0, 1], [0, 1]] (by kernel_rfl) Tryz.func237 rfl (by decide) (by decide +kernel) (rs := [.tmp 4]) rfl rfl (Nat.le_of_ble_eq_true rfl) ?_
  intro wf
  repeat (first | rw [kz_o] | rw [kz_r0] | simp -dsimp -implicitDefEqProofs only [go_sem, Nat.reduceBEq, Nat.reduceAdd, Nat.reduceLeDiff, Nat.reduceMul, Int.reduceLE, Int.reduceLT, Int.reduceBEq])
  refine wz_intro isWidth_ok ?_
  rintro _ h' ⟨rfl, rfl⟩
  cases h1 : widthB r.length
  · repeat (first | rw [kz_o] | rw [kz_r0] | simp -dsimp -implicitDefEqProofs only [go_sem, Nat.reduceBEq, Nat.reduceAdd, Nat.reduceLeDiff, Nat.reduceMul, Int.reduceLE, Int.reduceLT, Int.reduceBEq])
    exact ⟨H2.le.refl _, ⟨_, rfl⟩, by rw [rowB, h1]; rfl⟩
  repeat (first | rw [kz_o] | rw [kz_r0] | simp -dsimp -implicitDefEqProofs only [go_sem, Nat.reduceBEq, Nat.reduceAdd, Nat.reduceLeDiff, Nat.reduceMul, Int.reduceLE, Int.reduceLT, Int.reduceBEq])
  refine pw_intro (allIn_ok (by omega)) ?_
  rintro _ n1 hn1 rfl
  cases h2 : allI r (-8) 7
  · repeat (first | rw [kz_o] | rw [kz_r0] | simp -dsimp -implicitDefEqProofs only [go_sem, Nat.reduceBEq, Nat.reduceAdd, Nat.reduceLeDiff, Nat.reduceMul, Int.reduceLE, Int.reduceLT, Int.reduceBEq])
    exact ⟨le_up (H2.le.refl _) hn1, ⟨_, rfl⟩, by rw [rowB, h1, h2]; rfl⟩
  have w1 := quo_len h1
  by_cases h3 : (s.length : Int) = Int.tdiv r.length 4
  · have d3 : decide ((s.length : Int) = Int.tdiv r.length 4) = true := decide_eq_true h3
    repeat (first | rw [kz_o] | rw [kz_r0] | simp -dsimp -implicitDefEqProofs only [go_sem, Nat.reduceBEq, Nat.reduceAdd, Nat.reduceLeDiff, Nat.reduceMul, Int.reduceLE, Int.reduceLT, Int.reduceBEq, w1, d3])
    refine pw_intro (allIn_ok (by omega)) ?_
    rintro _ n2 hn2 rfl
    rw [hn_up] at hn2
    repeat (first | rw [kz_o] | rw [kz_r0] | simp -dsimp -implicitDefEqProofs only [go_sem, Nat.reduceBEq, Nat.reduceAdd, Nat.reduceLeDiff, Nat.reduceMul, Int.reduceLE, Int.reduceLT, Int.reduceBEq, w1, d3])
    exact ⟨le_up (le_up (H2.le.refl _) hn1) (by rw [hn_up]; exact hn2), ⟨_, rfl⟩, by rw [rowB, h1, h2, d3]; rfl⟩
  · have d3 : decide ((s.length : Int) = Int.tdiv r.length 4) = false := decide_eq_false h3
    repeat (first | rw [kz_o] | rw [kz_r0] | simp -dsimp -implicitDefEqProofs only [go_sem, Nat.reduceBEq, Nat.reduceAdd, Nat.reduceLeDiff, Nat.reduceMul, Int.reduceLE, Int.reduceLT, Int.reduceBEq, w1, d3])
    exact ⟨le_up (H2.le.refl _) hn1, ⟨_, rfl⟩, by rw [rowB, h1, h2, d3]; rfl⟩
theorem l05Fits_ok {f f' : Adr} {r s : List Int} {g : H2} (hr : r.length ≤ 1048576) (hs : s.length ≤ 1048576) : PW Tryz.prog W0 239 [.sl f 1 (ints r), .sl f' 1 (ints s)] g (fun y => y = .raw (.bool (rowB r s))) := by
  refine PW.scalar ?_
  refine start (P := Tryz.prog) [[0, 1], [0, 1]] (by kernel_rfl) Tryz.func239 rfl (by decide) (by decide +kernel) (rs := [.tmp 4]) rfl rfl (Nat.le_of_ble_eq_true rfl) ?_
  intro wf
  repeat (first | rw [kz_o] | rw [kz_r0] | simp -dsimp -implicitDefEqProofs only [go_sem, Nat.reduceBEq, Nat.reduceAdd, Nat.reduceLeDiff, Nat.reduceMul, Int.reduceLE, Int.reduceLT, Int.reduceBEq])
  refine wz_intro l05Width_ok ?_
  rintro _ h' ⟨rfl, rfl⟩
  cases h1 : widthB r.length
  · repeat (first | rw [kz_o] | rw [kz_r0] | simp -dsimp -implicitDefEqProofs only [go_sem, Nat.reduceBEq, Nat.reduceAdd, Nat.reduceLeDiff, Nat.reduceMul, Int.reduceLE, Int.reduceLT, Int.reduceBEq])
    exact ⟨H2.le.refl _, ⟨_, rfl⟩, by rw [rowB, h1]; rfl⟩
  repeat (first | rw [kz_o] | rw [kz_r0] | simp -dsimp -implicitDefEqProofs only [go_sem, Nat.reduceBEq, Nat.reduceAdd, Nat.reduceLeDiff, Nat.reduceMul, Int.reduceLE, Int.reduceLT, Int.reduceBEq])
  refine pw_intro (l05All_ok (by omega)) ?_
  rintro _ n1 hn1 rfl
  cases h2 : allI r (-8) 7
  · repeat (first | rw [kz_o] | rw [kz_r0] | simp -dsimp -implicitDefEqProofs only [go_sem, Nat.reduceBEq, Nat.reduceAdd, Nat.reduceLeDiff, Nat.reduceMul, Int.reduceLE, Int.reduceLT, Int.reduceBEq])
    exact ⟨le_up (H2.le.refl _) hn1, ⟨_, rfl⟩, by rw [rowB, h1, h2]; rfl⟩
  have w1 := quo_len h1
  by_cases h3 : (s.length : Int) = Int.tdiv r.length 4
  · have d3 : decide ((s.length : Int) = Int.tdiv r.length 4) = true := decide_eq_true h3
    repeat (first | rw [kz_o] | rw [kz_r0] | simp -dsimp -implicitDefEqProofs only [go_sem, Nat.reduceBEq, Nat.reduceAdd, Nat.reduceLeDiff, Nat.reduceMul, Int.reduceLE, Int.reduceLT, Int.reduceBEq, w1, d3])
    refine pw_intro (l05All_ok (by omega)) ?_
    rintro _ n2 hn2 rfl
    rw [hn_up] at hn2
    repeat (first | rw [kz_o] | rw [kz_r0] | simp -dsimp -implicitDefEqProofs only [go_sem, Nat.reduceBEq, Nat.reduceAdd, Nat.reduceLeDiff, Nat.reduceMul, Int.reduceLE, Int.reduceLT, Int.reduceBEq, w1, d3])
    exact ⟨le_up (le_up (H2.le.refl _) hn1) (by rw [hn_up]; exact hn2), ⟨_, rfl⟩, by rw [rowB, h1, h2, d3]; rfl⟩
  · have d3 : decide ((s.length : Int) = Int.tdiv r.length 4) = false := decide_eq_false h3
    repeat (first | rw [kz_o] | rw [kz_r0] | simp -dsimp -implicitDefEqProofs only [go_sem, Nat.reduceBEq, Nat.reduceAdd, Nat.reduceLeDiff, Nat.reduceMul, Int.reduceLE, Int.reduceLT, Int.reduceBEq, w1, d3])
    exact ⟨le_up (H2.le.refl _) hn1, ⟨_, rfl⟩, by rw [rowB, h1, h2, d3]; rfl⟩
theorem implGain_ok {f : Adr} {r : List Int} {n : Int} {g : H2} (hr : r.length ≤ 1048576) : PW Tryz.prog W0 129 [.sl f 1 (ints r), .raw (.int .i64 n)] g (fun y => y = .raw (.bool (gainB r n))) := by
  refine PW.scalar ?_
  refine start (P := Tryz.prog) [[0, 1], [0, 1]] (by kernel_rfl) Tryz.func129 rfl (by decide) (by decide +kernel) (rs := [.tmp 4]) rfl rfl (Nat.le_of_ble_eq_true rfl) ?_
  intro wf
  by_cases h1 : (r.length : Int) = n
  · have d1 : decide ((r.length : Int) = n) = true := decide_eq_true h1
    repeat (first | rw [kz_o] | rw [kz_r0] | simp -dsimp -implicitDefEqProofs only [go_sem, Nat.reduceBEq, Nat.reduceAdd, Nat.reduceLeDiff, Nat.reduceMul, Int.reduceLE, Int.reduceLT, Int.reduceBEq, d1])
    refine pw_intro (allIn_ok (by omega)) ?_
    rintro _ n1 hn1 rfl
    repeat (first | rw [kz_o] | rw [kz_r0] | simp -dsimp -implicitDefEqProofs only [go_sem, Nat.reduceBEq, Nat.reduceAdd, Nat.reduceLeDiff, Nat.reduceMul, Int.reduceLE, Int.reduceLT, Int.reduceBEq, d1])
    exact ⟨le_up (H2.le.refl _) hn1, ⟨_, rfl⟩, by rw [gainB, d1]; rfl⟩
  · have d1 : decide ((r.length : Int) = n) = false := decide_eq_false h1
    repeat (first | rw [kz_o] | rw [kz_r0] | simp -dsimp -implicitDefEqProofs only [go_sem, Nat.reduceBEq, Nat.reduceAdd, Nat.reduceLeDiff, Nat.reduceMul, Int.reduceLE, Int.reduceLT, Int.reduceBEq, d1])
    exact ⟨H2.le.refl _, ⟨_, rfl⟩, by rw [gainB, d1]; rfl⟩
theorem specGain_ok {f : Adr} {r : List Int} {n : Int} {g : H2} (hr : r.length ≤ 1048576) : PW Tryz.prog W0 141 [.sl f 1 (ints r), .raw (.int .i64 n)] g (fun y => y = .raw (.bool (gainB r n))) := by
  refine PW.scalar ?_
  refine start (P := Tryz.prog) [[0, 1], [0, 1]] (by kernel_rfl) Tryz.func141 rfl (by decide) (by decide +kernel) (rs := [.tmp 4]) rfl rfl (Nat.le_of_ble_eq_true rfl) ?_
  intro wf
  by_cases h1 : (r.length : Int) = n
  · have d1 : decide ((r.length : Int) = n) = true := decide_eq_true h1
    repeat (first | rw [kz_o] | rw [kz_r0] | simp -dsimp -implicitDefEqProofs only [go_sem, Nat.reduceBEq, Nat.reduceAdd, Nat.reduceLeDiff, Nat.reduceMul, Int.reduceLE, Int.reduceLT, Int.reduceBEq, d1])
    refine pw_intro (l05All_ok (by omega)) ?_
    rintro _ n1 hn1 rfl
    repeat (first | rw [kz_o] | rw [kz_r0] | simp -dsimp -implicitDefEqProofs only [go_sem, Nat.reduceBEq, Nat.reduceAdd, Nat.reduceLeDiff, Nat.reduceMul, Int.reduceLE, Int.reduceLT, Int.reduceBEq, d1])
    exact ⟨le_up (H2.le.refl _) hn1, ⟨_, rfl⟩, by rw [gainB, d1]; rfl⟩
  · have d1 : decide ((r.length : Int) = n) = false := decide_eq_false h1
    repeat (first | rw [kz_o] | rw [kz_r0] | simp -dsimp -implicitDefEqProofs only [go_sem, Nat.reduceBEq, Nat.reduceAdd, Nat.reduceLeDiff, Nat.reduceMul, Int.reduceLE, Int.reduceLT, Int.reduceBEq, d1])
    exact ⟨H2.le.refl _, ⟨_, rfl⟩, by rw [gainB, d1]; rfl⟩
end Go.Bi
end
section
set_option linter.unusedSimpArgs false
set_option linter.unusedVariables false
set_option maxRecDepth 20000
namespace Go.Bi
open Go.Proofs
open Go.Ai (wrap_i64 wrap_u8 Heap)
variable {W0 : World} {P : Program}
set_option maxHeartbeats 2000000
def absZ (x : Int) : Int := if x < 0 then -x else x
def worstT (r s : List Int) : Nat → Int
  | 0 => 0
  | k + 1 => worstT r s k + s.getD (k / 4) default * 127 * absZ (r.getD k default)
def worstI (r s : List Int) : Int := if rowB r s = true then worstT r s r.length else 0
theorem row_facts {r s : List Int} (h : rowB r s = true) : (r.length = 4 ∨ r.length = 8) ∧ r.length = 4 * s.length ∧ (∀ z ∈ r, -8 ≤ z ∧ z ≤ 7) ∧ ∀ z ∈ s, 1 ≤ z ∧ z ≤ 127 := by
  unfold rowB at h
  simp only [Bool.and_eq_true, decide_eq_true_eq, allI, List.all_eq_true, inI] at h
  obtain ⟨h1, h2, h3, h4⟩ := h
  have hw := width_rng h1
  have e4 : Int.tdiv (4 : Int) 4 = 1 := by decide
  have e8 : Int.tdiv (8 : Int) 4 = 2 := by decide
  refine ⟨by omega, ?_, fun z hz => h2 z hz, fun z hz => h4 z hz⟩
  rcases hw with hw | hw <;> rw [hw] at h3 <;> omega
theorem getD_memZ {l : List Int} {i : Nat} (h : i < l.length) : l.getD i default ∈ l := by
  rw [List.getD_eq_getElem?_getD, List.getElem?_eq_getElem h]; exact List.getElem_mem h
theorem term_rng {r s : List Int} (h : rowB r s = true) {k : Nat} (hk : k < r.length) : (1 ≤ s.getD (k / 4) default ∧ s.getD (k / 4) default ≤ 127) ∧ (-8 ≤ r.getD k default ∧ r.getD k default ≤ 7) ∧ (0 ≤ absZ (r.getD k default) ∧ absZ (r.getD k default) ≤ 8) ∧ 0 ≤ s.getD (k / 4) default * 127 * absZ (r.getD k default) ∧ s.getD (k / 4) default * 127 * absZ (r.getD k default) ≤ 129032 := by
  obtain ⟨hl, hs, hr, hsc⟩ := row_facts h
  have h1 := hr _ (getD_memZ hk)
  have h2 := hsc _ (getD_memZ (show k / 4 < s.length by omega))
  have h3 : 0 ≤ absZ (r.getD k default) ∧ absZ (r.getD k default) ≤ 8 := by unfold absZ; split <;> omega
  refine ⟨h2, h1, h3, Int.mul_nonneg (by omega) h3.1, ?_⟩
  have := Int.mul_le_mul (show s.getD (k / 4) default * 127 ≤ 16129 by omega) h3.2 h3.1 (by omega)
  omega
theorem worstT_rng {r s : List Int} (h : rowB r s = true) : ∀ {k : Nat}, k ≤ r.length → 0 ≤ worstT r s k ∧ worstT r s k ≤ 129032 * (k : Int)
  | 0, _ => by simp [worstT]
  | k + 1, hk => by
    have h1 := worstT_rng h (k := k) (by omega)
    have h2 := (term_rng h (show k < r.length by omega)).2.2.2
    rw [worstT]
    omega
theorem implWorst_ok {f f' : Adr} {r s : List Int} {g : H2} (hr : r.length ≤ 1048576) (hs : s.length ≤ 1048576) : PW Tryz.prog W0 205 [.sl f 1 (ints r), .sl f' 1 (ints s)] g (fun y => y = .raw (.int .i64 (worstI r s))) := by
  refine PW.scalar ?_
  refine start (P := Tryz.prog) [[0, 1], [0, 1], [], [0, 1], [0, 1, 5], [1, 5, 12, 13, 14], [1, 5, 12, 13, 14], [1, 5, 6, 7, 12, 13, 14], [1, 5, 12, 13, 14], [5]] (by kernel_rfl) Tryz.func205 rfl (by decide) (by decide +kernel) (rs := [.tmp 4]) rfl rfl (Nat.le_of_ble_eq_true rfl) ?_
  intro wf
  repeat (first | rw [kz_o] | rw [kz_r0] | simp -dsimp -implicitDefEqProofs only [go_sem, Nat.reduceBEq, Nat.reduceAdd, Nat.reduceLeDiff, Nat.reduceMul, Int.reduceLE, Int.reduceLT, Int.reduceBEq])
  refine pw_intro (rowOk_ok hr hs) ?_
  rintro _ n1 hn1 rfl
  cases h1 : rowB r s
  · repeat (first | rw [kz_o] | rw [kz_r0] | simp -dsimp -implicitDefEqProofs only [go_sem, Nat.reduceBEq, Nat.reduceAdd, Nat.reduceLeDiff, Nat.reduceMul, Int.reduceLE, Int.reduceLT, Int.reduceBEq])
    exact ⟨le_up (H2.le.refl _) hn1, ⟨_, rfl⟩, by rw [worstI, h1]; rfl⟩
  repeat (first | rw [kz_o] | rw [kz_r0] | simp -dsimp -implicitDefEqProofs only [go_sem, Nat.reduceBEq, Nat.reduceAdd, Nat.reduceLeDiff, Nat.reduceMul, Int.reduceLE, Int.reduceLT, Int.reduceBEq])
  have hfa := row_facts h1
  refine lz_keep [1, 12, 13] (fun m e h' => ∃ (i : Nat), h' = g.up n1 ∧ look e 14 .mk = .raw (.int .i64 (i : Nat)) ∧ look e 5 .mk = .raw (.int .i64 (worstT r s i)) ∧ m + i = r.length) r.length ?_ ?_
  · exact ⟨0, rfl, by simp -dsimp -implicitDefEqProofs only [go_sem, Nat.reduceBEq, Nat.reduceAdd, Nat.reduceLeDiff, Nat.reduceMul, Int.reduceLE, Int.reduceLT, Int.reduceBEq], by simp -dsimp -implicitDefEqProofs only [go_sem, Nat.reduceBEq, Nat.reduceAdd, Nat.reduceLeDiff, Nat.reduceMul, Int.reduceLE, Int.reduceLT, Int.reduceBEq] <;> rfl, by omega⟩
  · rintro m e h' hks ⟨i, rfl, e14, e5, hm⟩
    simp -dsimp -implicitDefEqProofs only [go_sem, Nat.reduceBEq, Nat.reduceAdd, Nat.reduceLeDiff, Nat.reduceMul, Int.reduceLE, Int.reduceLT, Int.reduceBEq] at hks
    by_cases h2 : (i : Int) < (r.length : Int)
    · have h3 : i < r.length := by omega
      obtain ⟨t1, t2, t3, t4, t5⟩ := term_rng h1 h3
      have t6 := worstT_rng h1 (k := i) (by omega)
      have w1 : IntKind.i64.wrap ((i : Int) + 1) = ((i + 1 : Nat) : Int) := by rw [wrap_i64] <;> omega
      have w2 : IntKind.i64.wrap (Int.tdiv (i : Int) 4) = ((i / 4 : Nat) : Int) := by
        rw [show Int.tdiv (i : Int) 4 = ((i / 4 : Nat) : Int) from rfl, wrap_i64] <;> omega
      have h4 : i / 4 < s.length := by omega
      have w3 : IntKind.i64.wrap (s.getD (i / 4) default * 127) = s.getD (i / 4) default * 127 := by rw [wrap_i64] <;> omega
      have w4 : IntKind.i64.wrap (0 - (r.getD i default)) = -(r.getD i default) := by rw [wrap_i64] <;> omega
      have w7 : Go.Ai.mxI (r.getD i default) (-(r.getD i default)) = absZ (r.getD i default) := by unfold Go.Ai.mxI absZ; split <;> split <;> omega
      have w5 : IntKind.i64.wrap (s.getD (i / 4) default * 127 * absZ (r.getD i default)) = s.getD (i / 4) default * 127 * absZ (r.getD i default) := by rw [wrap_i64] <;> omega
      have w6 : IntKind.i64.wrap (worstT r s i + s.getD (i / 4) default * 127 * absZ (r.getD i default)) = worstT r s (i + 1) := by rw [worstT, wrap_i64] <;> omega
      repeat (first | rw [kz_o] | rw [kz_r0] | simp -dsimp -implicitDefEqProofs only [go_sem, Nat.reduceBEq, Nat.reduceAdd, Nat.reduceLeDiff, Nat.reduceMul, Int.reduceLE, Int.reduceLT, Int.reduceBEq, hks, e14, e5, h2, h3, h4, w2, w3, w4, w5, w6, w7, w1])
      exact nx_keep (m - 1) (by omega) (by simp -dsimp -implicitDefEqProofs only [go_sem, Nat.reduceBEq, Nat.reduceAdd, Nat.reduceLeDiff, Nat.reduceMul, Int.reduceLE, Int.reduceLT, Int.reduceBEq, hks]) ⟨i + 1, rfl, by simp -dsimp -implicitDefEqProofs only [go_sem, Nat.reduceBEq, Nat.reduceAdd, Nat.reduceLeDiff, Nat.reduceMul, Int.reduceLE, Int.reduceLT, Int.reduceBEq, w1], by simp -dsimp -implicitDefEqProofs only [go_sem, Nat.reduceBEq, Nat.reduceAdd, Nat.reduceLeDiff, Nat.reduceMul, Int.reduceLE, Int.reduceLT, Int.reduceBEq], by omega⟩
    · obtain rfl : i = r.length := by omega
      repeat (first | rw [kz_o] | rw [kz_r0] | simp -dsimp -implicitDefEqProofs only [go_sem, Nat.reduceBEq, Nat.reduceAdd, Nat.reduceLeDiff, Nat.reduceMul, Int.reduceLE, Int.reduceLT, Int.reduceBEq, hks, e14, e5, h2])
      exact ⟨le_up (H2.le.refl _) hn1, ⟨_, rfl⟩, by rw [worstI, h1]; rfl⟩
theorem abs_ok {x : Int} {g : H2} (hx : -1000000 ≤ x ∧ x ≤ 1000000) : WC2 Tryz.prog W0 259 [.raw (.int .i64 x)] g (fun v g' => v = .raw (.int .i64 (absZ x)) ∧ g' = g) := by
  refine start (P := Tryz.prog) [[0], [0], [0], [0]] (by kernel_rfl) Tryz.func259 rfl (by decide) (by decide +kernel) (rs := [.tmp 2]) rfl rfl (Nat.le_of_ble_eq_true rfl) ?_
  intro wf
  repeat (first | rw [kz_o] | rw [kz_r0] | simp -dsimp -implicitDefEqProofs only [go_sem, Nat.reduceBEq, Nat.reduceAdd, Nat.reduceLeDiff, Nat.reduceMul, Int.reduceLE, Int.reduceLT, Int.reduceBEq])
  have w1 : IntKind.i64.wrap (0 - x) = -x := by rw [wrap_i64] <;> omega
  refine gz_dec (fun h1 => ?_) (fun h1 => ?_)
  · repeat (first | rw [kz_o] | rw [kz_r0] | simp -dsimp -implicitDefEqProofs only [go_sem, Nat.reduceBEq, Nat.reduceAdd, Nat.reduceLeDiff, Nat.reduceMul, Int.reduceLE, Int.reduceLT, Int.reduceBEq, h1, w1])
    exact ⟨by rw [absZ, if_pos h1], rfl⟩
  · repeat (first | rw [kz_o] | rw [kz_r0] | simp -dsimp -implicitDefEqProofs only [go_sem, Nat.reduceBEq, Nat.reduceAdd, Nat.reduceLeDiff, Nat.reduceMul, Int.reduceLE, Int.reduceLT, Int.reduceBEq, h1])
    exact ⟨by rw [absZ, if_neg h1], rfl⟩
theorem specWorst_ok {f f' : Adr} {r s : List Int} {g : H2} (hr : r.length ≤ 1048576) (hs : s.length ≤ 1048576) : PW Tryz.prog W0 240 [.sl f 1 (ints r), .sl f' 1 (ints s)] g (fun y => y = .raw (.int .i64 (worstI r s))) := by
  refine PW.scalar ?_
  refine start (P := Tryz.prog) [[0, 1], [0, 1], [], [0, 1], [0, 1, 5], [0, 1, 5, 6], [0, 1, 5, 6], [0, 1, 5, 6], [5]] (by kernel_rfl) Tryz.func240 rfl (by decide) (by decide +kernel) (rs := [.tmp 4]) rfl rfl (Nat.le_of_ble_eq_true rfl) ?_
  intro wf
  repeat (first | rw [kz_o] | rw [kz_r0] | simp -dsimp -implicitDefEqProofs only [go_sem, Nat.reduceBEq, Nat.reduceAdd, Nat.reduceLeDiff, Nat.reduceMul, Int.reduceLE, Int.reduceLT, Int.reduceBEq])
  refine pw_intro (l05Fits_ok hr hs) ?_
  rintro _ n1 hn1 rfl
  cases h1 : rowB r s
  · repeat (first | rw [kz_o] | rw [kz_r0] | simp -dsimp -implicitDefEqProofs only [go_sem, Nat.reduceBEq, Nat.reduceAdd, Nat.reduceLeDiff, Nat.reduceMul, Int.reduceLE, Int.reduceLT, Int.reduceBEq])
    exact ⟨le_up (H2.le.refl _) hn1, ⟨_, rfl⟩, by rw [worstI, h1]; rfl⟩
  repeat (first | rw [kz_o] | rw [kz_r0] | simp -dsimp -implicitDefEqProofs only [go_sem, Nat.reduceBEq, Nat.reduceAdd, Nat.reduceLeDiff, Nat.reduceMul, Int.reduceLE, Int.reduceLT, Int.reduceBEq])
  have hfa := row_facts h1
  refine lz_keep [0, 1] (fun m e h' => ∃ (i : Nat), h' = g.up n1 ∧ look e 6 .mk = .raw (.int .i64 (i : Nat)) ∧ look e 5 .mk = .raw (.int .i64 (worstT r s i)) ∧ m + i = r.length) r.length ?_ ?_
  · exact ⟨0, rfl, by simp -dsimp -implicitDefEqProofs only [go_sem, Nat.reduceBEq, Nat.reduceAdd, Nat.reduceLeDiff, Nat.reduceMul, Int.reduceLE, Int.reduceLT, Int.reduceBEq], by simp -dsimp -implicitDefEqProofs only [go_sem, Nat.reduceBEq, Nat.reduceAdd, Nat.reduceLeDiff, Nat.reduceMul, Int.reduceLE, Int.reduceLT, Int.reduceBEq] <;> rfl, by omega⟩
  · rintro m e h' hks ⟨i, rfl, e6, e5, hm⟩
    simp -dsimp -implicitDefEqProofs only [go_sem, Nat.reduceBEq, Nat.reduceAdd, Nat.reduceLeDiff, Nat.reduceMul, Int.reduceLE, Int.reduceLT, Int.reduceBEq] at hks
    by_cases h2 : (i : Int) < (r.length : Int)
    · have h3 : i < r.length := by omega
      obtain ⟨t1, t2, t3, t4, t5⟩ := term_rng h1 h3
      have t6 := worstT_rng h1 (k := i) (by omega)
      have w1 : IntKind.i64.wrap ((i : Int) + 1) = ((i + 1 : Nat) : Int) := by rw [wrap_i64] <;> omega
      have w2 : IntKind.i64.wrap (Int.tdiv (i : Int) 4) = ((i / 4 : Nat) : Int) := by
        rw [show Int.tdiv (i : Int) 4 = ((i / 4 : Nat) : Int) from rfl, wrap_i64] <;> omega
      have h4 : i / 4 < s.length := by omega
      have w3 : IntKind.i64.wrap (s.getD (i / 4) default * 127) = s.getD (i / 4) default * 127 := by rw [wrap_i64] <;> omega
      have w5 : IntKind.i64.wrap (s.getD (i / 4) default * 127 * absZ (r.getD i default)) = s.getD (i / 4) default * 127 * absZ (r.getD i default) := by rw [wrap_i64] <;> omega
      have w6 : IntKind.i64.wrap (worstT r s i + s.getD (i / 4) default * 127 * absZ (r.getD i default)) = worstT r s (i + 1) := by rw [worstT, wrap_i64] <;> omega
      repeat (first | rw [kz_o] | rw [kz_r0] | simp -dsimp -implicitDefEqProofs only [go_sem, Nat.reduceBEq, Nat.reduceAdd, Nat.reduceLeDiff, Nat.reduceMul, Int.reduceLE, Int.reduceLT, Int.reduceBEq, hks, e6, e5, h2, h3])
      refine dq_intro [(0, []), (1, []), (2, []), (3, []), (4, []), (5, []), (6, []), (7, []), (8, []), (9, []), (10, []), (11, [5]), (12, []), (13, []), (14, [])] (by kernel_rfl) ?_
      repeat (first | rw [kz_o] | rw [kz_r0] | simp -dsimp -implicitDefEqProofs only [go_sem, Nat.reduceBEq, Nat.reduceAdd, Nat.reduceLeDiff, Nat.reduceMul, Int.reduceLE, Int.reduceLT, Int.reduceBEq, hks, e6, e5, h2, h3, h4, w2, w3])
      refine wz_intro (abs_ok (by omega)) ?_
      rintro _ g' ⟨rfl, rfl⟩
      repeat (first | rw [kz_o] | rw [kz_r0] | simp -dsimp -implicitDefEqProofs only [go_sem, Nat.reduceBEq, Nat.reduceAdd, Nat.reduceLeDiff, Nat.reduceMul, Int.reduceLE, Int.reduceLT, Int.reduceBEq, hks, e6, e5, h2, h3, h4, w2, w3, w5, w6, w1])
      exact nx_keep (m - 1) (by omega) (by simp -dsimp -implicitDefEqProofs only [go_sem, Nat.reduceBEq, Nat.reduceAdd, Nat.reduceLeDiff, Nat.reduceMul, Int.reduceLE, Int.reduceLT, Int.reduceBEq, hks]) ⟨i + 1, rfl, by simp -dsimp -implicitDefEqProofs only [go_sem, Nat.reduceBEq, Nat.reduceAdd, Nat.reduceLeDiff, Nat.reduceMul, Int.reduceLE, Int.reduceLT, Int.reduceBEq, w1], by simp -dsimp -implicitDefEqProofs only [go_sem, Nat.reduceBEq, Nat.reduceAdd, Nat.reduceLeDiff, Nat.reduceMul, Int.reduceLE, Int.reduceLT, Int.reduceBEq], by omega⟩
    · obtain rfl : i = r.length := by omega
      repeat (first | rw [kz_o] | rw [kz_r0] | simp -dsimp -implicitDefEqProofs only [go_sem, Nat.reduceBEq, Nat.reduceAdd, Nat.reduceLeDiff, Nat.reduceMul, Int.reduceLE, Int.reduceLT, Int.reduceBEq, hks, e6, e5, h2])
      exact ⟨le_up (H2.le.refl _) hn1, ⟨_, rfl⟩, by rw [worstI, h1]; rfl⟩
end Go.Bi
end
section
set_option linter.unusedSimpArgs false
set_option linter.unusedVariables false
set_option maxRecDepth 20000
namespace Go.Bi
open Go.Proofs
open Go.Ai (wrap_i64 wrap_u8 Heap)
variable {W0 : World} {P : Program}
set_option maxHeartbeats 4000000
def lineB (m : LMatrix) (i : Nat) : Bool := decide (((m.rows.getD i default).length : Int) = m.width) && rowB (m.rows.getD i default) (m.scales.getD i default)
def matB (m : LMatrix) : Bool := widthB m.width && (decide ((m.rows.length : Int) ≤ 300) && (decide ((m.scales.length : Int) = m.rows.length) && (inI m.mul 0 65536 && (inI m.shift 0 24 && (List.range m.rows.length).all (lineB m)))))
def smallL (l : List (List Int)) : Prop := l.length ≤ 1048576 ∧ ∀ r ∈ l, r.length ≤ 1048576
def smallM (m : LMatrix) : Prop := smallL m.rows ∧ smallL m.scales
theorem smallL_at {l : List (List Int)} (h : smallL l) (i : Nat) : (l.getD i default).length ≤ 1048576 := by
  by_cases hi : i < l.length
  · refine h.2 _ ?_
    rw [List.getD_eq_getElem?_getD, List.getElem?_eq_getElem hi]; exact List.getElem_mem hi
  · rw [List.getD_eq_getElem?_getD, List.getElem?_eq_none (by omega)]; show 0 ≤ _; omega
theorem range_all {n : Nat} {p : Nat → Bool} (h : ∀ i, i < n → p i = true) : (List.range n).all p = true := by
  rw [List.all_eq_true]; intro i hi; exact h i (List.mem_range.1 hi)
theorem range_bad {n i : Nat} {p : Nat → Bool} (hi : i < n) (h : p i = false) : (List.range n).all p = false := by
  rw [List.all_eq_false]; exact ⟨i, List.mem_range.2 hi, by rw [h]; simp⟩
theorem implMatrix_ok {F : Nat → Adr} {m : LMatrix} {g : H2} (hsm : smallM m) : PW Tryz.prog W0 204 [.st (xMatrix F m)] g (fun y => y = .raw (.bool (matB m))) := by
  obtain ⟨⟨hr1, hr2⟩, hs1, hs2⟩ := id hsm
  refine PW.scalar ?_
  refine start (P := Tryz.prog) [[0], [1], [], [1], [1, 37, 38, 39], [1, 37, 38, 39], [1, 3, 4, 37, 38, 39], [], [1, 37, 38, 39], []] (by kernel_rfl) Tryz.func204 rfl (by decide) (by decide +kernel) (rs := [.tmp 2]) rfl rfl (Nat.le_of_ble_eq_true rfl) ?_
  intro wf
  repeat (first | rw [kz_o] | rw [kz_r0] | simp -dsimp -implicitDefEqProofs only [go_sem, Nat.reduceBEq, Nat.reduceAdd, Nat.reduceLeDiff, Nat.reduceMul, Int.reduceLE, Int.reduceLT, Int.reduceBEq, hoo])
  refine wz_intro isWidth_ok ?_
  rintro _ _ ⟨rfl, rfl⟩
  cases h1 : widthB m.width
  · repeat (first | rw [kz_o] | rw [kz_r0] | simp -dsimp -implicitDefEqProofs only [go_sem, Nat.reduceBEq, Nat.reduceAdd, Nat.reduceLeDiff, Nat.reduceMul, Int.reduceLE, Int.reduceLT, Int.reduceBEq, hoo])
    exact ⟨le_push (H2.le.refl _), ⟨_, rfl⟩, by rw [matB, h1]; rfl⟩
  by_cases h2 : (m.rows.length : Int) > 300
  · repeat (first | rw [kz_o] | rw [kz_r0] | simp -dsimp -implicitDefEqProofs only [go_sem, Nat.reduceBEq, Nat.reduceAdd, Nat.reduceLeDiff, Nat.reduceMul, Int.reduceLE, Int.reduceLT, Int.reduceBEq, hoo, h2])
    exact ⟨le_push (H2.le.refl _), ⟨_, rfl⟩, by rw [matB, h1, decide_eq_false (show ¬ (m.rows.length : Int) ≤ 300 by omega)]; rfl⟩
  have d2 : decide ((m.rows.length : Int) ≤ 300) = true := decide_eq_true (by omega)
  by_cases h3 : (m.scales.length : Int) = m.rows.length
  rotate_left
  · have d3 : decide ((m.scales.length : Int) = m.rows.length) = false := decide_eq_false h3
    have e3 : decide (¬ (m.scales.length : Int) = m.rows.length) = true := decide_eq_true h3
    repeat (first | rw [kz_o] | rw [kz_r0] | simp -dsimp -implicitDefEqProofs only [go_sem, Nat.reduceBEq, Nat.reduceAdd, Nat.reduceLeDiff, Nat.reduceMul, Int.reduceLE, Int.reduceLT, Int.reduceBEq, hoo, h2, e3])
    exact ⟨le_push (H2.le.refl _), ⟨_, rfl⟩, by rw [matB, h1, d2, d3]; rfl⟩
  have d3 : decide ((m.scales.length : Int) = m.rows.length) = true := decide_eq_true h3
  have e3 : decide (¬ (m.scales.length : Int) = m.rows.length) = false := decide_eq_false (fun h => h h3)
  repeat (first | rw [kz_o] | rw [kz_r0] | simp -dsimp -implicitDefEqProofs only [go_sem, Nat.reduceBEq, Nat.reduceAdd, Nat.reduceLeDiff, Nat.reduceMul, Int.reduceLE, Int.reduceLT, Int.reduceBEq, hoo, h2, e3])
  refine wz_intro in_ok ?_
  rintro _ _ ⟨rfl, rfl⟩
  cases h4 : inI m.mul 0 65536
  · repeat (first | rw [kz_o] | rw [kz_r0] | simp -dsimp -implicitDefEqProofs only [go_sem, Nat.reduceBEq, Nat.reduceAdd, Nat.reduceLeDiff, Nat.reduceMul, Int.reduceLE, Int.reduceLT, Int.reduceBEq, hoo])
    exact ⟨le_push (H2.le.refl _), ⟨_, rfl⟩, by rw [matB, h1, d2, d3, h4]; rfl⟩
  repeat (first | rw [kz_o] | rw [kz_r0] | simp -dsimp -implicitDefEqProofs only [go_sem, Nat.reduceBEq, Nat.reduceAdd, Nat.reduceLeDiff, Nat.reduceMul, Int.reduceLE, Int.reduceLT, Int.reduceBEq, hoo])
  refine wz_intro in_ok ?_
  rintro _ _ ⟨rfl, rfl⟩
  cases h5 : inI m.shift 0 24
  · repeat (first | rw [kz_o] | rw [kz_r0] | simp -dsimp -implicitDefEqProofs only [go_sem, Nat.reduceBEq, Nat.reduceAdd, Nat.reduceLeDiff, Nat.reduceMul, Int.reduceLE, Int.reduceLT, Int.reduceBEq, hoo])
    exact ⟨le_push (H2.le.refl _), ⟨_, rfl⟩, by rw [matB, h1, d2, d3, h4, h5]; rfl⟩
  repeat (first | rw [kz_o] | rw [kz_r0] | simp -dsimp -implicitDefEqProofs only [go_sem, Nat.reduceBEq, Nat.reduceAdd, Nat.reduceLeDiff, Nat.reduceMul, Int.reduceLE, Int.reduceLT, Int.reduceBEq, hoo])
  have hB : matB m = (List.range m.rows.length).all (lineB m) := by rw [matB, h1, d2, d3, h4, h5]; rfl
  refine lz_keep [1, 37, 38] (fun mm e h' => ∃ (i : Nat), g.le h' ∧ hg h' (hn g .mk) .mk = some ⟨5, [.raw (.int .i64 m.width), .sl (F 1) 1 (rIntSS m.rows), .sl (F 2) 1 (rIntSS m.scales), .raw (.int .i64 m.mul), .raw (.int .i64 m.shift)]⟩ ∧ look e 39 .mk = .raw (.int .i64 (i : Nat)) ∧ mm + i = m.rows.length ∧ ∀ j, j < i → lineB m j = true) m.rows.length ?_ ?_
  · exact ⟨0, le_push (H2.le.refl _), by simp -dsimp -implicitDefEqProofs only [go_sem, Nat.reduceBEq, Nat.reduceAdd, Nat.reduceLeDiff, Nat.reduceMul, Int.reduceLE, Int.reduceLT, Int.reduceBEq, hoo], by simp -dsimp -implicitDefEqProofs only [go_sem, Nat.reduceBEq, Nat.reduceAdd, Nat.reduceLeDiff, Nat.reduceMul, Int.reduceLE, Int.reduceLT, Int.reduceBEq], by omega, fun j hj => by omega⟩
  · rintro mm e h' hks ⟨i, hle, row, ei, hm, hpre⟩
    simp -dsimp -implicitDefEqProofs only [go_sem, Nat.reduceBEq, Nat.reduceAdd, Nat.reduceLeDiff, Nat.reduceMul, Int.reduceLE, Int.reduceLT, Int.reduceBEq] at hks
    by_cases q1 : (i : Int) < (m.rows.length : Int)
    · have q2 : i < m.rows.length := by omega
      have q3 : i < m.scales.length := by omega
      have w1 : IntKind.i64.wrap ((i : Int) + 1) = ((i + 1 : Nat) : Int) := by rw [wrap_i64] <;> omega
      by_cases q4 : ((m.rows.getD i default).length : Int) = m.width
      · have d4 : decide (((m.rows.getD i default).length : Int) = m.width) = true := decide_eq_true q4
        have e4 : decide (¬ ((m.rows.getD i default).length : Int) = m.width) = false := decide_eq_false (fun h => h q4)
        repeat (first | rw [kz_o] | rw [kz_r0] | simp -dsimp -implicitDefEqProofs only [go_sem, Nat.reduceBEq, Nat.reduceAdd, Nat.reduceLeDiff, Nat.reduceMul, Int.reduceLE, Int.reduceLT, Int.reduceBEq, hks, ei, q1, q2, q3, e4, row])
        refine pw_intro (rowOk_ok (smallL_at hsm.1 i) (smallL_at hsm.2 i)) ?_
        rintro _ n3 hn3 rfl
        cases q5 : rowB (m.rows.getD i default) (m.scales.getD i default)
        · repeat (first | rw [kz_o] | rw [kz_r0] | simp -dsimp -implicitDefEqProofs only [go_sem, Nat.reduceBEq, Nat.reduceAdd, Nat.reduceLeDiff, Nat.reduceMul, Int.reduceLE, Int.reduceLT, Int.reduceBEq, hks, ei, q1, q2, q3, e4, row])
          exact ⟨le_up hle hn3, ⟨_, rfl⟩, by rw [hB, range_bad q2 (by rw [lineB, d4, q5]; rfl)]⟩
        · repeat (first | rw [kz_o] | rw [kz_r0] | simp -dsimp -implicitDefEqProofs only [go_sem, Nat.reduceBEq, Nat.reduceAdd, Nat.reduceLeDiff, Nat.reduceMul, Int.reduceLE, Int.reduceLT, Int.reduceBEq, hks, ei, q1, q2, q3, e4, row, w1])
          refine nx_keep (mm - 1) (by omega) (by simp -dsimp -implicitDefEqProofs only [go_sem, Nat.reduceBEq, Nat.reduceAdd, Nat.reduceLeDiff, Nat.reduceMul, Int.reduceLE, Int.reduceLT, Int.reduceBEq, hks]) ⟨i + 1, le_up hle hn3, by simp -dsimp -implicitDefEqProofs only [go_sem, Nat.reduceBEq, Nat.reduceAdd, Nat.reduceLeDiff, Nat.reduceMul, Int.reduceLE, Int.reduceLT, Int.reduceBEq, row], by simp -dsimp -implicitDefEqProofs only [go_sem, Nat.reduceBEq, Nat.reduceAdd, Nat.reduceLeDiff, Nat.reduceMul, Int.reduceLE, Int.reduceLT, Int.reduceBEq, w1], by omega, fun j hj => ?_⟩
          by_cases hji : j = i
          · subst hji; rw [lineB, d4, q5]; rfl
          · exact hpre j (by omega)
      · have d4 : decide (((m.rows.getD i default).length : Int) = m.width) = false := decide_eq_false q4
        have e4 : decide (¬ ((m.rows.getD i default).length : Int) = m.width) = true := decide_eq_true q4
        repeat (first | rw [kz_o] | rw [kz_r0] | simp -dsimp -implicitDefEqProofs only [go_sem, Nat.reduceBEq, Nat.reduceAdd, Nat.reduceLeDiff, Nat.reduceMul, Int.reduceLE, Int.reduceLT, Int.reduceBEq, hks, ei, q1, q2, q3, e4, row])
        exact ⟨hle, ⟨_, rfl⟩, by rw [hB, range_bad q2 (by rw [lineB, d4]; rfl)]⟩
    · repeat (first | rw [kz_o] | rw [kz_r0] | simp -dsimp -implicitDefEqProofs only [go_sem, Nat.reduceBEq, Nat.reduceAdd, Nat.reduceLeDiff, Nat.reduceMul, Int.reduceLE, Int.reduceLT, Int.reduceBEq, hks, ei, q1, row])
      exact ⟨hle, ⟨_, rfl⟩, by rw [hB, range_all fun j hj => hpre j (by omega)]⟩
theorem specMatrix_ok {F : Nat → Adr} {m : LMatrix} {g : H2} (hsm : smallM m) : PW Tryz.prog W0 207 [.st (xMatrix F m)] g (fun y => y = .raw (.bool (matB m))) := by
  obtain ⟨⟨hr1, hr2⟩, hs1, hs2⟩ := id hsm
  refine PW.scalar ?_
  refine start (P := Tryz.prog) [[0], [1], [], [1], [1, 3], [1, 3], [1, 3], [], []] (by kernel_rfl) Tryz.func207 rfl (by decide) (by decide +kernel) (rs := [.tmp 2]) rfl rfl (Nat.le_of_ble_eq_true rfl) ?_
  intro wf
  repeat (first | rw [kz_o] | rw [kz_r0] | simp -dsimp -implicitDefEqProofs only [go_sem, Nat.reduceBEq, Nat.reduceAdd, Nat.reduceLeDiff, Nat.reduceMul, Int.reduceLE, Int.reduceLT, Int.reduceBEq, hoo])
  refine wz_intro l05Width_ok ?_
  rintro _ _ ⟨rfl, rfl⟩
  cases h1 : widthB m.width
  · repeat (first | rw [kz_o] | rw [kz_r0] | simp -dsimp -implicitDefEqProofs only [go_sem, Nat.reduceBEq, Nat.reduceAdd, Nat.reduceLeDiff, Nat.reduceMul, Int.reduceLE, Int.reduceLT, Int.reduceBEq, hoo])
    exact ⟨le_push (H2.le.refl _), ⟨_, rfl⟩, by rw [matB, h1]; rfl⟩
  by_cases h2 : (m.rows.length : Int) > 300
  · repeat (first | rw [kz_o] | rw [kz_r0] | simp -dsimp -implicitDefEqProofs only [go_sem, Nat.reduceBEq, Nat.reduceAdd, Nat.reduceLeDiff, Nat.reduceMul, Int.reduceLE, Int.reduceLT, Int.reduceBEq, hoo, h2])
    exact ⟨le_push (H2.le.refl _), ⟨_, rfl⟩, by rw [matB, h1, decide_eq_false (show ¬ (m.rows.length : Int) ≤ 300 by omega)]; rfl⟩
  have d2 : decide ((m.rows.length : Int) ≤ 300) = true := decide_eq_true (by omega)
  by_cases h3 : (m.scales.length : Int) = m.rows.length
  rotate_left
  · have d3 : decide ((m.scales.length : Int) = m.rows.length) = false := decide_eq_false h3
    have e3 : decide (¬ (m.scales.length : Int) = m.rows.length) = true := decide_eq_true h3
    repeat (first | rw [kz_o] | rw [kz_r0] | simp -dsimp -implicitDefEqProofs only [go_sem, Nat.reduceBEq, Nat.reduceAdd, Nat.reduceLeDiff, Nat.reduceMul, Int.reduceLE, Int.reduceLT, Int.reduceBEq, hoo, h2, e3])
    exact ⟨le_push (H2.le.refl _), ⟨_, rfl⟩, by rw [matB, h1, d2, d3]; rfl⟩
  have d3 : decide ((m.scales.length : Int) = m.rows.length) = true := decide_eq_true h3
  have e3 : decide (¬ (m.scales.length : Int) = m.rows.length) = false := decide_eq_false (fun h => h h3)
  repeat (first | rw [kz_o] | rw [kz_r0] | simp -dsimp -implicitDefEqProofs only [go_sem, Nat.reduceBEq, Nat.reduceAdd, Nat.reduceLeDiff, Nat.reduceMul, Int.reduceLE, Int.reduceLT, Int.reduceBEq, hoo, h2, e3])
  refine wz_intro l01In_ok ?_
  rintro _ _ ⟨rfl, rfl⟩
  cases h4 : inI m.mul 0 65536
  · repeat (first | rw [kz_o] | rw [kz_r0] | simp -dsimp -implicitDefEqProofs only [go_sem, Nat.reduceBEq, Nat.reduceAdd, Nat.reduceLeDiff, Nat.reduceMul, Int.reduceLE, Int.reduceLT, Int.reduceBEq, hoo])
    exact ⟨le_push (H2.le.refl _), ⟨_, rfl⟩, by rw [matB, h1, d2, d3, h4]; rfl⟩
  repeat (first | rw [kz_o] | rw [kz_r0] | simp -dsimp -implicitDefEqProofs only [go_sem, Nat.reduceBEq, Nat.reduceAdd, Nat.reduceLeDiff, Nat.reduceMul, Int.reduceLE, Int.reduceLT, Int.reduceBEq, hoo])
  refine wz_intro l01In_ok ?_
  rintro _ _ ⟨rfl, rfl⟩
  cases h5 : inI m.shift 0 24
  · repeat (first | rw [kz_o] | rw [kz_r0] | simp -dsimp -implicitDefEqProofs only [go_sem, Nat.reduceBEq, Nat.reduceAdd, Nat.reduceLeDiff, Nat.reduceMul, Int.reduceLE, Int.reduceLT, Int.reduceBEq, hoo])
    exact ⟨le_push (H2.le.refl _), ⟨_, rfl⟩, by rw [matB, h1, d2, d3, h4, h5]; rfl⟩
  repeat (first | rw [kz_o] | rw [kz_r0] | simp -dsimp -implicitDefEqProofs only [go_sem, Nat.reduceBEq, Nat.reduceAdd, Nat.reduceLeDiff, Nat.reduceMul, Int.reduceLE, Int.reduceLT, Int.reduceBEq, hoo])
  have hB : matB m = (List.range m.rows.length).all (lineB m) := by rw [matB, h1, d2, d3, h4, h5]; rfl
  refine lz_keep [1] (fun mm e h' => ∃ (i : Nat), g.le h' ∧ hg h' (hn g .mk) .mk = some ⟨5, [.raw (.int .i64 m.width), .sl (F 1) 1 (rIntSS m.rows), .sl (F 2) 1 (rIntSS m.scales), .raw (.int .i64 m.mul), .raw (.int .i64 m.shift)]⟩ ∧ look e 3 .mk = .raw (.int .i64 (i : Nat)) ∧ mm + i = m.rows.length ∧ ∀ j, j < i → lineB m j = true) m.rows.length ?_ ?_
  · exact ⟨0, le_push (H2.le.refl _), by simp -dsimp -implicitDefEqProofs only [go_sem, Nat.reduceBEq, Nat.reduceAdd, Nat.reduceLeDiff, Nat.reduceMul, Int.reduceLE, Int.reduceLT, Int.reduceBEq, hoo], by simp -dsimp -implicitDefEqProofs only [go_sem, Nat.reduceBEq, Nat.reduceAdd, Nat.reduceLeDiff, Nat.reduceMul, Int.reduceLE, Int.reduceLT, Int.reduceBEq], by omega, fun j hj => by omega⟩
  · rintro mm e h' hks ⟨i, hle, row, ei, hm, hpre⟩
    simp -dsimp -implicitDefEqProofs only [go_sem, Nat.reduceBEq, Nat.reduceAdd, Nat.reduceLeDiff, Nat.reduceMul, Int.reduceLE, Int.reduceLT, Int.reduceBEq] at hks
    by_cases q1 : (i : Int) < (m.rows.length : Int)
    · have q2 : i < m.rows.length := by omega
      have q3 : i < m.scales.length := by omega
      have w1 : IntKind.i64.wrap ((i : Int) + 1) = ((i + 1 : Nat) : Int) := by rw [wrap_i64] <;> omega
      by_cases q4 : ((m.rows.getD i default).length : Int) = m.width
      · have d4 : decide (((m.rows.getD i default).length : Int) = m.width) = true := decide_eq_true q4
        have e4 : decide (¬ ((m.rows.getD i default).length : Int) = m.width) = false := decide_eq_false (fun h => h q4)
        repeat (first | rw [kz_o] | rw [kz_r0] | simp -dsimp -implicitDefEqProofs only [go_sem, Nat.reduceBEq, Nat.reduceAdd, Nat.reduceLeDiff, Nat.reduceMul, Int.reduceLE, Int.reduceLT, Int.reduceBEq, hks, ei, q1, q2, q3, row])
        refine dq_intro [(0, []), (1, []), (2, []), (3, []), (4, []), (5, []), (6, []), (7, []), (8, []), (9, []), (10, []), (11, []), (12, []), (13, []), (14, []), (15, []), (16, []), (17, []), (18, []), (19, []), (20, []), (21, []), (22, [])] (by kernel_rfl) ?_
        repeat (first | rw [kz_o] | rw [kz_r0] | simp -dsimp -implicitDefEqProofs only [go_sem, Nat.reduceBEq, Nat.reduceAdd, Nat.reduceLeDiff, Nat.reduceMul, Int.reduceLE, Int.reduceLT, Int.reduceBEq, hks, ei, q1, q2, q3, e4, row])
        refine pw_intro (l05Fits_ok (smallL_at hsm.1 i) (smallL_at hsm.2 i)) ?_
        rintro _ n3 hn3 rfl
        cases q5 : rowB (m.rows.getD i default) (m.scales.getD i default)
        · repeat (first | rw [kz_o] | rw [kz_r0] | simp -dsimp -implicitDefEqProofs only [go_sem, Nat.reduceBEq, Nat.reduceAdd, Nat.reduceLeDiff, Nat.reduceMul, Int.reduceLE, Int.reduceLT, Int.reduceBEq, hks, ei, q1, q2, q3, e4, row])
          exact ⟨le_up hle hn3, ⟨_, rfl⟩, by rw [hB, range_bad q2 (by rw [lineB, d4, q5]; rfl)]⟩
        · repeat (first | rw [kz_o] | rw [kz_r0] | simp -dsimp -implicitDefEqProofs only [go_sem, Nat.reduceBEq, Nat.reduceAdd, Nat.reduceLeDiff, Nat.reduceMul, Int.reduceLE, Int.reduceLT, Int.reduceBEq, hks, ei, q1, q2, q3, e4, row, w1])
          refine nx_keep (mm - 1) (by omega) (by simp -dsimp -implicitDefEqProofs only [go_sem, Nat.reduceBEq, Nat.reduceAdd, Nat.reduceLeDiff, Nat.reduceMul, Int.reduceLE, Int.reduceLT, Int.reduceBEq, hks]) ⟨i + 1, le_up hle hn3, by simp -dsimp -implicitDefEqProofs only [go_sem, Nat.reduceBEq, Nat.reduceAdd, Nat.reduceLeDiff, Nat.reduceMul, Int.reduceLE, Int.reduceLT, Int.reduceBEq, row], by simp -dsimp -implicitDefEqProofs only [go_sem, Nat.reduceBEq, Nat.reduceAdd, Nat.reduceLeDiff, Nat.reduceMul, Int.reduceLE, Int.reduceLT, Int.reduceBEq, w1], by omega, fun j hj => ?_⟩
          by_cases hji : j = i
          · subst hji; rw [lineB, d4, q5]; rfl
          · exact hpre j (by omega)
      · have d4 : decide (((m.rows.getD i default).length : Int) = m.width) = false := decide_eq_false q4
        have e4 : decide (¬ ((m.rows.getD i default).length : Int) = m.width) = true := decide_eq_true q4
        repeat (first | rw [kz_o] | rw [kz_r0] | simp -dsimp -implicitDefEqProofs only [go_sem, Nat.reduceBEq, Nat.reduceAdd, Nat.reduceLeDiff, Nat.reduceMul, Int.reduceLE, Int.reduceLT, Int.reduceBEq, hks, ei, q1, q2, q3, row])
        refine dq_intro [(0, []), (1, []), (2, []), (3, []), (4, []), (5, []), (6, []), (7, []), (8, []), (9, []), (10, []), (11, []), (12, []), (13, []), (14, []), (15, []), (16, []), (17, []), (18, []), (19, []), (20, []), (21, []), (22, [])] (by kernel_rfl) ?_
        repeat (first | rw [kz_o] | rw [kz_r0] | simp -dsimp -implicitDefEqProofs only [go_sem, Nat.reduceBEq, Nat.reduceAdd, Nat.reduceLeDiff, Nat.reduceMul, Int.reduceLE, Int.reduceLT, Int.reduceBEq, hks, ei, q1, q2, q3, e4, row])
        exact ⟨hle, ⟨_, rfl⟩, by rw [hB, range_bad q2 (by rw [lineB, d4]; rfl)]⟩
    · repeat (first | rw [kz_o] | rw [kz_r0] | simp -dsimp -implicitDefEqProofs only [go_sem, Nat.reduceBEq, Nat.reduceAdd, Nat.reduceLeDiff, Nat.reduceMul, Int.reduceLE, Int.reduceLT, Int.reduceBEq, hks, ei, q1, row])
      exact ⟨hle, ⟨_, rfl⟩, by rw [hB, range_all fun j hj => hpre j (by omega)]⟩
end Go.Bi
end
