/- Own lemmas that the theorem of this claim needs: the abstract machine and walks of functions. -/
import Derived.Test.YtjofbadmkigkjaaGreatReLawAS
set_option linter.unusedSimpArgs false
set_option linter.unusedVariables false
open Nat renaming reduceBEq → rq1, reduceAdd → rq2, reduceLeDiff → rq3, reduceMul → rq4
open Int renaming reduceLE → rq5, reduceLT → rq6, reduceBEq → rq7
section
set_option maxRecDepth 20000
set_option maxHeartbeats 8000000
namespace Go.Bi
open Go.Proofs
open Go.Ai (wrap_i64 wrap_u8)
variable {W0 : World}
def MidFnExactSubmit10 (e : LEngine) (p : List Int) (c : LConfig) (g0 : H2) (e2 : E2) (h2 : H2) : Prop := ∃ (b : Nat) (ys : List X) (bs : List Nat), look e2 8 .mk = .raw (.pointer (some ⟨b, 0, none⟩)) ∧ look e2 9 .mk = .raw (.int .i64 (subN e p c)) ∧ look e2 10 .mk = .raw (.int .i64 (subK e p c)) ∧ g0.le h2 ∧ hn g0 .mk ≤ b ∧ b < hn h2 .mk ∧ hg h2 b .mk = some ⟨17, ys⟩ ∧ OTs h2 bs ys (eEngine (subE e p c)) ∧ Bl (hn g0 .mk) (hn h2 .mk) bs ∧ b ∉ bs
def MidFnExactSubmit37 (e : LEngine) (p : List Int) (c : LConfig) (g0 : H2) (e2 : E2) (h2 : H2) : Prop := ∃ (b : Nat) (ys : List X) (bs : List Nat), look e2 20 .mk = .raw (.pointer (some ⟨b, 0, none⟩)) ∧ look e2 21 .mk = .raw (.int .i64 (subN e p c)) ∧ look e2 22 .mk = .raw (.int .i64 (subK e p c)) ∧ g0.le h2 ∧ hn g0 .mk ≤ b ∧ b < hn h2 .mk ∧ hg h2 b .mk = some ⟨17, ys⟩ ∧ OTs h2 bs ys (eEngine (subE e p c)) ∧ Bl (hn g0 .mk) (hn h2 .mk) bs ∧ b ∉ bs
theorem FnExactSubmit_ok {F0 : Nat → Adr} {e : LEngine} {f1 : Adr} {p : List Int} {F2 : Nat → Adr} {c : LConfig} {h : H2} (hf0 : fitEngine e) (hf1 : p.length ≤ 9223372036854775807) (hf2 : fitConfig c) (hrg : rngEngine e) : WC2 Tryz.prog W0 10 [.st (xEngine F0 e), .sl f1 1 (ints p), .st (xConfig F2 c)] h (fun v h' => v = .raw (.bool true)) := by
 refine begins [[0, 1, 2], [1, 3, 5], [], [1, 3, 5], [1, 3, 5, 7], [1, 3, 5, 7], [], [1, 3, 5, 7], [1, 3, 5, 7], [], [1, 3, 5], [1, 3, 5, 8, 9, 10], [1, 3, 5, 8, 9, 10, 11], [1, 3, 5, 8, 9, 10, 11, 12], [1, 3, 5, 8, 9, 10, 11, 12, 13], [1, 3, 5, 8, 9, 10, 11, 12, 13, 14, 15, 16], [], [1, 3, 5, 8, 9, 10, 11, 12, 13, 14, 15, 16], [], [1, 3, 5, 8, 9, 10, 11, 12, 13, 14, 15, 16], [], [1, 3, 5, 8, 9, 10, 11, 12, 13, 14, 15, 16], [], [1, 3, 5, 8, 9, 10, 11, 12, 13, 14, 15, 16], [1, 3, 5, 8, 9, 10, 11, 12, 13, 14, 15, 16, 17], [1, 3, 5, 8, 9, 10, 12, 13, 14, 15, 16, 17], [1, 3, 5, 8, 9, 10, 13, 14, 15, 16, 17], [1, 3, 5, 8, 9, 10, 14, 15, 16, 17], [], [1, 3, 5, 8, 9, 10, 14], [1, 3, 5, 8, 9, 10, 14, 18], [1, 3, 5, 8, 9, 10, 14, 18], [1, 3, 5, 8, 9, 10, 14, 18, 19], [1, 3, 5, 8, 9, 10, 14, 18, 19], [], [1, 3, 5, 8, 9, 10, 14, 18, 19], [], [1, 3, 5, 8, 9, 10, 14, 18], [8, 9, 10, 14, 18, 20, 21, 22], [], [14, 18], [14, 18, 19], [18, 19], [], [18, 19], [], []] Tryz.func10 rfl (rs := [.tmp 6]) rfl rfl ?_
 intro wf
 repeat (first | rw [ko] | rw [kr] | simp -dsimp -implicitDefEqProofs only [go_sem, rq1])
 refine gz_dec (fun q1 => ?_) (fun q1 => ?_)
 ·repeat (first | rw [ko] | rw [kr] | simp -dsimp -implicitDefEqProofs only [go_sem])
  rfl
 repeat (first | rw [ko] | rw [kr] | simp -dsimp -implicitDefEqProofs only [go_sem, rq1, hoo])
 refine pw_intro (szEngine_ok hf0 ⟨by omega, by omega⟩) ?_
 rintro _ n2 hn2 ⟨k2, rfl, hk2⟩
 have hm2 := hn2
 try simp only [hn_push] at hm2
 repeat (first | rw [ko] | rw [kr] | simp -dsimp -implicitDefEqProofs only [go_sem, rq1, hoo])
 refine gz_dec (fun q3 => ?_) (fun q3 => ?_)
 ·repeat (first | rw [ko] | rw [kr] | simp -dsimp -implicitDefEqProofs only [go_sem])
  rfl
 repeat (first | rw [ko] | rw [kr] | simp -dsimp -implicitDefEqProofs only [go_sem, rq1, hoo])
 refine pw_intro (szConfig_ok hf2 ⟨by omega, by omega⟩) ?_
 rintro _ n4 hn4 ⟨k4, rfl, hk4⟩
 have hm4 := hn4
 try simp only [hn_up] at hm4
 repeat (first | rw [ko] | rw [kr] | simp -dsimp -implicitDefEqProofs only [go_sem, rq1, hoo])
 refine gz_dec (fun q5 => ?_) (fun q5 => ?_)
 ·repeat (first | rw [ko] | rw [kr] | simp -dsimp -implicitDefEqProofs only [go_sem])
  rfl
 have hsz_e : szEngine e ≤ 1048576 := by omega
 have hsz_c : szConfig c ≤ 1048576 := by omega
 have hszq : e.requests.length ≤ 1048576 := by have : szEngine e = szModel e.model + szStore e.store + (e.requests.length + sumN szRequest e.requests) := rfl; omega
 have hfe : fitEngine (subE e p c) := subE_fit hf0 hszq (by omega) hf2
 have hszn : szEngine (subE e p c) ≤ 4194304 := subE_sz hsz_e (by omega) hsz_c
 have hct_c : cntConfig c ≤ 1048576 := by have h1 : szConfig c = c.stops.length + sumL c.stops := rfl; show c.stops.length ≤ _; omega
 repeat (first | rw [ko] | rw [kr] | simp -dsimp -implicitDefEqProofs only [go_sem, rq1, hoo])
 refine drz_midG [1, 3, 5] (MidFnExactSubmit10 e p c) ?_ ?_
 ·refine dt_intro (.op 0 [] (.op 2 [] (.op 4 [] (.alt (.op 1 [4] (.alt (.op 3 [4] (.alt (.op 5 [] (.alt (.op 6 [] (.op 7 [] (.op 8 [] (.op 9 [] (.op 10 [] (.op 11 [0, 4] (.op 12 [] (.op 13 [] (.op 14 [] .nil))))))))) (.op 11 [0, 4] (.op 6 [] (.op 7 [] (.op 8 [] (.op 9 [] (.op 10 [] (.op 12 [] (.op 13 [] (.op 14 [] .nil))))))))))) (.op 11 [0, 4] (.op 5 [] (.op 6 [] (.op 7 [] (.op 8 [] (.op 9 [] (.op 10 [] (.op 12 [] (.op 13 [] (.op 14 [] .nil)))))))))))) (.op 11 [0, 4] (.op 3 [4] (.op 5 [] (.op 6 [] (.op 7 [] (.op 8 [] (.op 9 [] (.op 10 [] (.op 12 [] (.op 13 [] (.op 14 [] .nil))))))))))))) (.op 11 [0, 4] (.op 1 [4] (.op 3 [4] (.op 5 [] (.op 6 [] (.op 7 [] (.op 8 [] (.op 9 [] (.op 10 [] (.op 12 [] (.op 13 [] (.op 14 [] .nil)))))))))))))))) (by kernel_rfl) ?_
  repeat (first | rw [ko] | rw [kr] | simp -dsimp -implicitDefEqProofs only [go_sem, rq1, hoo])
  rw [run_alt]
  refine ⟨?_, ?_⟩
  ·repeat (first | rw [ko] | rw [kr] | simp -dsimp -implicitDefEqProofs only [go_sem, hoo])
   refine wz_intro (toEngine_ok (by omega)) ?_
   rintro _ g7 ⟨l7, ys7, b7, rfl, o7, bl7⟩
   try simp only [hn_up] at bl7
   have nn7 := l7.n
   try simp only [hn_up] at nn7
   have LL7 : h.le g7 := H2.le.trans zale l7
   have ln7 := LL7.n
   have row0 := l7.2 (hn h .mk) zau
   simp -dsimp -implicitDefEqProofs only [go_sem, hoo] at row0
   have row1 := l7.2 (hn h .mk + 1) zau
   simp -dsimp -implicitDefEqProofs only [go_sem, hoo] at row1
   obtain ⟨s7_3, s7_4, s7_5, s7_6, s7_8, s7_9, s7_12, s7_13, s7_14, s7_15, s7_16, rfl, ce7⟩ := shEngine o7
   rw [kq]
   refine ⟨by simp -dsimp -implicitDefEqProofs only [go_sem, rq1, row1, hoo], ?_⟩
   repeat (first | rw [ko] | rw [kr] | simp -dsimp -implicitDefEqProofs only [go_sem, rq1, rq2, rq3, rq4, rq5, rq6, rq7, ce7, row0, row1, hoo])
   rw [run_alt]
   refine ⟨?_, ?_⟩
   ·repeat (first | rw [ko] | rw [kr] | simp -dsimp -implicitDefEqProofs only [go_sem, hoo])
    refine wz_intro (toIntS_new (by omega)) ?_
    rintro s8 g8 ⟨l8, b8, o8, bl8⟩
    try simp only [hn_push, hn_up] at bl8
    have nn8 := l8.n
    try simp only [hn_push, hn_up] at nn8
    have LL8 : g7.le g8 := H2.le.trans zale l8
    have ln8 := LL8.n
    replace o7 := o7.keep LL8 (bl7.wide (Nat.le_refl _) (by omega))
    replace row0 := (LL8.2 (hn h .mk) (by omega)).trans row0
    replace row1 := (LL8.2 (hn h .mk + 1) (by omega)).trans row1
    have ce8 := OT.cell o8
    rw [kq]
    refine ⟨by simp -dsimp -implicitDefEqProofs only [go_sem, rq1, row1, hoo], ?_⟩
    repeat (first | rw [ko] | rw [kr] | simp -dsimp -implicitDefEqProofs only [go_sem, rq1, rq2, rq3, rq4, rq5, rq6, rq7, ce7, ce8, row0, row1, hoo])
    rw [run_alt]
    refine ⟨?_, ?_⟩
    ·repeat (first | rw [ko] | rw [kr] | simp -dsimp -implicitDefEqProofs only [go_sem, hoo])
     refine wz_intro (toConfig_ok (by omega)) ?_
     rintro _ g9 ⟨l9, ys9, b9, rfl, o9, bl9⟩
     try simp only [hn_push, hn_up] at bl9
     have nn9 := l9.n
     try simp only [hn_push, hn_up] at nn9
     have LL9 : g8.le g9 := H2.le.trans zale l9
     have ln9 := LL9.n
     replace o7 := o7.keep LL9 (bl7.wide (Nat.le_refl _) (by omega))
     replace o8 := o8.keep LL9 (bl8.wide (Nat.le_refl _) (by omega))
     replace row0 := (LL9.2 (hn h .mk) (by omega)).trans row0
     replace row1 := (LL9.2 (hn h .mk + 1) (by omega)).trans row1
     obtain ⟨s9_3, rfl, ce9⟩ := shConfig o9
     repeat (first | rw [ko] | rw [kr] | simp -dsimp -implicitDefEqProofs only [go_sem, rq1, rq2, rq3, rq4, rq5, rq6, rq7, ce7, ce8, ce9, row0, row1, hoo])
     rw [run_alt]
     refine ⟨?_, ?_⟩
     ·repeat (first | rw [ko] | rw [kr] | simp -dsimp -implicitDefEqProofs only [go_sem, hoo])
      refine wz_intro (specSubmit_tree (o7.keep zale (bl7.wide (Nat.le_refl _) (by omega))) (o8.keep zale (bl8.wide (Nat.le_refl _) (by omega))) (o9.keep zale (bl9.wide (Nat.le_refl _) (by omega))) (by omega) hrg (by omega) (by omega)) ?_
      rintro _ g10 ⟨l10, ys10, b10, rfl, o10, bl10⟩
      try simp only [hn_push, hn_up] at bl10
      have nn10 := l10.n
      try simp only [hn_push, hn_up] at nn10
      have LL10 : g9.le g10 := H2.le.trans zale l10
      have ln10 := LL10.n
      replace o7 := o7.keep LL10 (bl7.wide (Nat.le_refl _) (by omega))
      replace o8 := o8.keep LL10 (bl8.wide (Nat.le_refl _) (by omega))
      replace o9 := o9.keep LL10 (bl9.wide (Nat.le_refl _) (by omega))
      replace row0 := (LL10.2 (hn h .mk) (by omega)).trans row0
      replace row1 := (LL10.2 (hn h .mk + 1) (by omega)).trans row1
      obtain ⟨s10_3, s10_4, s10_5, s10_6, s10_8, s10_9, s10_12, s10_13, s10_14, s10_15, s10_16, rfl, ce10⟩ := shEngine o10
      have ne11 : ((hn h .mk) == (hn g10 .mk)) = false := zne
      have nf11 : ((hn g10 .mk) == (hn h .mk)) = false := zne
      have ne12 : ((hn h .mk + 1) == (hn g10 .mk)) = false := zne
      have nf12 : ((hn g10 .mk) == (hn h .mk + 1)) = false := zne
      repeat (first | rw [ko] | rw [kr] | simp -dsimp -implicitDefEqProofs only [go_sem, rq1, rq2, ce10, row0, row1, ne11, ne12, hoo])
      refine jz_keep ?_ ?_
      ·simp -dsimp -implicitDefEqProofs only [go_sem, rq1]
      refine ⟨hn g10 .mk, _, _, zsm, zsm, zsm, by repeat (first | exact H2.le.refl _ | apply le_push | refine le_set ?_ zau | refine le_up ?_ (by first | assumption | omega) | refine H2.le.trans ?_ l7 | refine H2.le.trans ?_ l8 | refine H2.le.trans ?_ l9 | refine H2.le.trans ?_ l10), zau, zau, by simp -dsimp -implicitDefEqProofs only [go_sem, hoo] <;> rfl, (o10.frame fun q hq => by have h1 := bl10.2 q hq; (try simp only [H2.push]); repeat (first | rfl | rw [if_neg (by first | omega | (unfold hn at *; omega))])), bl10.wide zau zau, fun hx => by have := bl10.2 _ hx; omega⟩
     ·have ne14 : ((hn h .mk) == (hn g9 .mk)) = false := zne
      have nf14 : ((hn g9 .mk) == (hn h .mk)) = false := zne
      have ne15 : ((hn h .mk + 1) == (hn g9 .mk)) = false := zne
      have nf15 : ((hn g9 .mk) == (hn h .mk + 1)) = false := zne
      repeat (first | rw [ko] | rw [kr] | simp -dsimp -implicitDefEqProofs only [go_sem, rq1, row0, row1, ne14, ne15, hoo])
      refine wz_intro (specSubmit_tree (o7.keep zale (bl7.wide (Nat.le_refl _) (by omega))) (o8.keep zale (bl8.wide (Nat.le_refl _) (by omega))) (o9.keep zale (bl9.wide (Nat.le_refl _) (by omega))) (by omega) hrg (by omega) (by omega)) ?_
      rintro _ g17 ⟨l17, ys17, b17, rfl, o17, bl17⟩
      try simp only [hn_push] at bl17
      have nn17 := l17.n
      try simp only [hn_push] at nn17
      have LL17 : g9.le g17 := H2.le.trans zale l17
      have ln17 := LL17.n
      replace o7 := o7.keep LL17 (bl7.wide (Nat.le_refl _) (by omega))
      replace o8 := o8.keep LL17 (bl8.wide (Nat.le_refl _) (by omega))
      replace row0 := (LL17.2 (hn h .mk) (by omega)).trans row0
      replace row1 := (LL17.2 (hn h .mk + 1) (by omega)).trans row1
      have rowz16 := l17.2 (hn g9 .mk) zau
      simp -dsimp -implicitDefEqProofs only [go_sem, hoo] at rowz16
      obtain ⟨s17_3, s17_4, s17_5, s17_6, s17_8, s17_9, s17_12, s17_13, s17_14, s17_15, s17_16, rfl, ce17⟩ := shEngine o17
      repeat (first | rw [ko] | rw [kr] | simp -dsimp -implicitDefEqProofs only [go_sem, rq1, rq2, ce17, rowz16, hoo])
      refine jz_keep ?_ ?_
      ·simp -dsimp -implicitDefEqProofs only [go_sem, rq1]
      refine ⟨hn g9 .mk, _, _, zsm, zsm, zsm, by repeat (first | exact H2.le.refl _ | apply le_push | refine le_set ?_ zau | refine le_up ?_ (by first | assumption | omega) | refine H2.le.trans ?_ l7 | refine H2.le.trans ?_ l8 | refine H2.le.trans ?_ l9 | refine H2.le.trans ?_ l17), zau, zau, by simp -dsimp -implicitDefEqProofs only [go_sem, hoo] <;> rfl, (o17.frame fun q hq => by have h1 := bl17.2 q hq; (try simp only [H2.set]); repeat (first | rfl | rw [if_neg (by first | omega | (unfold hn at *; omega))])), bl17.wide zau zau, fun hx => by have := bl17.2 _ hx; omega⟩
    ·have ne18 : ((hn h .mk) == (hn g8 .mk)) = false := zne
     have nf18 : ((hn g8 .mk) == (hn h .mk)) = false := zne
     have ne19 : ((hn h .mk + 1) == (hn g8 .mk)) = false := zne
     have nf19 : ((hn g8 .mk) == (hn h .mk + 1)) = false := zne
     repeat (first | rw [ko] | rw [kr] | simp -dsimp -implicitDefEqProofs only [go_sem, rq1, row0, row1, ne18, ne19, hoo])
     refine wz_intro (toConfig_ok (by omega)) ?_
     rintro _ g21 ⟨l21, ys21, b21, rfl, o21, bl21⟩
     try simp only [hn_push] at bl21
     have nn21 := l21.n
     try simp only [hn_push] at nn21
     have LL21 : g8.le g21 := H2.le.trans zale l21
     have ln21 := LL21.n
     replace o7 := o7.keep LL21 (bl7.wide (Nat.le_refl _) (by omega))
     replace o8 := o8.keep LL21 (bl8.wide (Nat.le_refl _) (by omega))
     replace row0 := (LL21.2 (hn h .mk) (by omega)).trans row0
     replace row1 := (LL21.2 (hn h .mk + 1) (by omega)).trans row1
     have rowz20 := l21.2 (hn g8 .mk) zau
     simp -dsimp -implicitDefEqProofs only [go_sem, hoo] at rowz20
     obtain ⟨s21_3, rfl, ce21⟩ := shConfig o21
     repeat (first | rw [ko] | rw [kr] | simp -dsimp -implicitDefEqProofs only [go_sem, rq1, hoo])
     refine wz_intro (specSubmit_tree (o7.keep zale (bl7.wide (Nat.le_refl _) (by omega))) (o8.keep zale (bl8.wide (Nat.le_refl _) (by omega))) (o21.keep zale (bl21.wide (Nat.le_refl _) (by omega))) (by omega) hrg (by omega) (by omega)) ?_
     rintro _ g22 ⟨l22, ys22, b22, rfl, o22, bl22⟩
     try simp only [hn_push, hn_up] at bl22
     have nn22 := l22.n
     try simp only [hn_push, hn_up] at nn22
     have LL22 : g21.le g22 := H2.le.trans zale l22
     have ln22 := LL22.n
     replace o7 := o7.keep LL22 (bl7.wide (Nat.le_refl _) (by omega))
     replace row0 := (LL22.2 (hn h .mk) (by omega)).trans row0
     replace row1 := (LL22.2 (hn h .mk + 1) (by omega)).trans row1
     replace rowz20 := (LL22.2 (hn g8 .mk) (by omega)).trans rowz20
     obtain ⟨s22_3, s22_4, s22_5, s22_6, s22_8, s22_9, s22_12, s22_13, s22_14, s22_15, s22_16, rfl, ce22⟩ := shEngine o22
     repeat (first | rw [ko] | rw [kr] | simp -dsimp -implicitDefEqProofs only [go_sem, rq1, rq2, ce22, rowz20, hoo])
     refine jz_keep ?_ ?_
     ·simp -dsimp -implicitDefEqProofs only [go_sem, rq1]
     refine ⟨hn g8 .mk, _, _, zsm, zsm, zsm, by repeat (first | exact H2.le.refl _ | apply le_push | refine le_set ?_ zau | refine le_up ?_ (by first | assumption | omega) | refine H2.le.trans ?_ l7 | refine H2.le.trans ?_ l8 | refine H2.le.trans ?_ l21 | refine H2.le.trans ?_ l22), zau, zau, by simp -dsimp -implicitDefEqProofs only [go_sem, hoo] <;> rfl, (o22.frame fun q hq => by have h1 := bl22.2 q hq; (try simp only [H2.set]); repeat (first | rfl | rw [if_neg (by first | omega | (unfold hn at *; omega))])), bl22.wide zau zau, fun hx => by have := bl22.2 _ hx; omega⟩
   ·have ne23 : ((hn h .mk) == (hn g7 .mk)) = false := zne
    have nf23 : ((hn g7 .mk) == (hn h .mk)) = false := zne
    have ne24 : ((hn h .mk + 1) == (hn g7 .mk)) = false := zne
    have nf24 : ((hn g7 .mk) == (hn h .mk + 1)) = false := zne
    repeat (first | rw [ko] | rw [kr] | simp -dsimp -implicitDefEqProofs only [go_sem, rq1, row0, row1, ne23, ne24, hoo])
    refine wz_intro (toIntS_new (by omega)) ?_
    rintro s26 g26 ⟨l26, b26, o26, bl26⟩
    try simp only [hn_push] at bl26
    have nn26 := l26.n
    try simp only [hn_push] at nn26
    have LL26 : g7.le g26 := H2.le.trans zale l26
    have ln26 := LL26.n
    replace o7 := o7.keep LL26 (bl7.wide (Nat.le_refl _) (by omega))
    replace row0 := (LL26.2 (hn h .mk) (by omega)).trans row0
    replace row1 := (LL26.2 (hn h .mk + 1) (by omega)).trans row1
    have rowz25 := l26.2 (hn g7 .mk) zau
    simp -dsimp -implicitDefEqProofs only [go_sem, hoo] at rowz25
    have ce26 := OT.cell o26
    rw [kq]
    refine ⟨by simp -dsimp -implicitDefEqProofs only [go_sem, rq1, row1, hoo], ?_⟩
    repeat (first | rw [ko] | rw [kr] | simp -dsimp -implicitDefEqProofs only [go_sem, rq1, hoo])
    refine wz_intro (toConfig_ok (by omega)) ?_
    rintro _ g27 ⟨l27, ys27, b27, rfl, o27, bl27⟩
    try simp only [hn_push, hn_up] at bl27
    have nn27 := l27.n
    try simp only [hn_push, hn_up] at nn27
    have LL27 : g26.le g27 := H2.le.trans zale l27
    have ln27 := LL27.n
    replace o7 := o7.keep LL27 (bl7.wide (Nat.le_refl _) (by omega))
    replace o26 := o26.keep LL27 (bl26.wide (Nat.le_refl _) (by omega))
    replace row0 := (LL27.2 (hn h .mk) (by omega)).trans row0
    replace row1 := (LL27.2 (hn h .mk + 1) (by omega)).trans row1
    replace rowz25 := (LL27.2 (hn g7 .mk) (by omega)).trans rowz25
    obtain ⟨s27_3, rfl, ce27⟩ := shConfig o27
    repeat (first | rw [ko] | rw [kr] | simp -dsimp -implicitDefEqProofs only [go_sem, rq1, hoo])
    refine wz_intro (specSubmit_tree (o7.keep zale (bl7.wide (Nat.le_refl _) (by omega))) (o26.keep zale (bl26.wide (Nat.le_refl _) (by omega))) (o27.keep zale (bl27.wide (Nat.le_refl _) (by omega))) (by omega) hrg (by omega) (by omega)) ?_
    rintro _ g28 ⟨l28, ys28, b28, rfl, o28, bl28⟩
    try simp only [hn_push, hn_up] at bl28
    have nn28 := l28.n
    try simp only [hn_push, hn_up] at nn28
    have LL28 : g27.le g28 := H2.le.trans zale l28
    have ln28 := LL28.n
    replace row0 := (LL28.2 (hn h .mk) (by omega)).trans row0
    replace row1 := (LL28.2 (hn h .mk + 1) (by omega)).trans row1
    replace rowz25 := (LL28.2 (hn g7 .mk) (by omega)).trans rowz25
    obtain ⟨s28_3, s28_4, s28_5, s28_6, s28_8, s28_9, s28_12, s28_13, s28_14, s28_15, s28_16, rfl, ce28⟩ := shEngine o28
    repeat (first | rw [ko] | rw [kr] | simp -dsimp -implicitDefEqProofs only [go_sem, rq1, rq2, ce28, rowz25, hoo])
    refine jz_keep ?_ ?_
    ·simp -dsimp -implicitDefEqProofs only [go_sem, rq1]
    refine ⟨hn g7 .mk, _, _, zsm, zsm, zsm, by repeat (first | exact H2.le.refl _ | apply le_push | refine le_set ?_ zau | refine le_up ?_ (by first | assumption | omega) | refine H2.le.trans ?_ l7 | refine H2.le.trans ?_ l26 | refine H2.le.trans ?_ l27 | refine H2.le.trans ?_ l28), zau, zau, by simp -dsimp -implicitDefEqProofs only [go_sem, hoo] <;> rfl, (o28.frame fun q hq => by have h1 := bl28.2 q hq; (try simp only [H2.set]); repeat (first | rfl | rw [if_neg (by first | omega | (unfold hn at *; omega))])), bl28.wide zau zau, fun hx => by have := bl28.2 _ hx; omega⟩
  ·have ne29 : ((hn h .mk) == (n4)) = false := zne
   have nf29 : ((n4) == (hn h .mk)) = false := zne
   have ne30 : ((hn h .mk + 1) == (n4)) = false := zne
   have nf30 : ((n4) == (hn h .mk + 1)) = false := zne
   repeat (first | rw [ko] | rw [kr] | simp -dsimp -implicitDefEqProofs only [go_sem, rq1, ne29, ne30, hoo])
   refine wz_intro (toEngine_ok (by omega)) ?_
   rintro _ g32 ⟨l32, ys32, b32, rfl, o32, bl32⟩
   try simp only [hn_push, hn_up] at bl32
   have nn32 := l32.n
   try simp only [hn_push, hn_up] at nn32
   have LL32 : h.le g32 := H2.le.trans zale l32
   have ln32 := LL32.n
   have row0 := l32.2 (hn h .mk) zau
   simp -dsimp -implicitDefEqProofs only [go_sem, ne29, hoo] at row0
   have row1 := l32.2 (hn h .mk + 1) zau
   simp -dsimp -implicitDefEqProofs only [go_sem, ne30, hoo] at row1
   have rowz31 := l32.2 (n4) zau
   simp -dsimp -implicitDefEqProofs only [go_sem, hoo] at rowz31
   obtain ⟨s32_3, s32_4, s32_5, s32_6, s32_8, s32_9, s32_12, s32_13, s32_14, s32_15, s32_16, rfl, ce32⟩ := shEngine o32
   rw [kq]
   refine ⟨by simp -dsimp -implicitDefEqProofs only [go_sem, rq1, row1, hoo], ?_⟩
   repeat (first | rw [ko] | rw [kr] | simp -dsimp -implicitDefEqProofs only [go_sem, rq1, hoo])
   refine wz_intro (toIntS_new (by omega)) ?_
   rintro s33 g33 ⟨l33, b33, o33, bl33⟩
   try simp only [hn_push, hn_up] at bl33
   have nn33 := l33.n
   try simp only [hn_push, hn_up] at nn33
   have LL33 : g32.le g33 := H2.le.trans zale l33
   have ln33 := LL33.n
   replace o32 := o32.keep LL33 (bl32.wide (Nat.le_refl _) (by omega))
   replace row0 := (LL33.2 (hn h .mk) (by omega)).trans row0
   replace row1 := (LL33.2 (hn h .mk + 1) (by omega)).trans row1
   replace rowz31 := (LL33.2 (n4) (by omega)).trans rowz31
   have ce33 := OT.cell o33
   rw [kq]
   refine ⟨by simp -dsimp -implicitDefEqProofs only [go_sem, rq1, row1, hoo], ?_⟩
   repeat (first | rw [ko] | rw [kr] | simp -dsimp -implicitDefEqProofs only [go_sem, rq1, hoo])
   refine wz_intro (toConfig_ok (by omega)) ?_
   rintro _ g34 ⟨l34, ys34, b34, rfl, o34, bl34⟩
   try simp only [hn_push, hn_up] at bl34
   have nn34 := l34.n
   try simp only [hn_push, hn_up] at nn34
   have LL34 : g33.le g34 := H2.le.trans zale l34
   have ln34 := LL34.n
   replace o32 := o32.keep LL34 (bl32.wide (Nat.le_refl _) (by omega))
   replace o33 := o33.keep LL34 (bl33.wide (Nat.le_refl _) (by omega))
   replace row0 := (LL34.2 (hn h .mk) (by omega)).trans row0
   replace row1 := (LL34.2 (hn h .mk + 1) (by omega)).trans row1
   replace rowz31 := (LL34.2 (n4) (by omega)).trans rowz31
   obtain ⟨s34_3, rfl, ce34⟩ := shConfig o34
   repeat (first | rw [ko] | rw [kr] | simp -dsimp -implicitDefEqProofs only [go_sem, hoo])
   refine wz_intro (specSubmit_tree (o32.keep zale (bl32.wide (Nat.le_refl _) (by omega))) (o33.keep zale (bl33.wide (Nat.le_refl _) (by omega))) (o34.keep zale (bl34.wide (Nat.le_refl _) (by omega))) (by omega) hrg (by omega) (by omega)) ?_
   rintro _ g35 ⟨l35, ys35, b35, rfl, o35, bl35⟩
   try simp only [hn_push, hn_up] at bl35
   have nn35 := l35.n
   try simp only [hn_push, hn_up] at nn35
   have LL35 : g34.le g35 := H2.le.trans zale l35
   have ln35 := LL35.n
   replace row0 := (LL35.2 (hn h .mk) (by omega)).trans row0
   replace row1 := (LL35.2 (hn h .mk + 1) (by omega)).trans row1
   replace rowz31 := (LL35.2 (n4) (by omega)).trans rowz31
   obtain ⟨s35_3, s35_4, s35_5, s35_6, s35_8, s35_9, s35_12, s35_13, s35_14, s35_15, s35_16, rfl, ce35⟩ := shEngine o35
   repeat (first | rw [ko] | rw [kr] | simp -dsimp -implicitDefEqProofs only [go_sem, rq1, rq2, ce35, rowz31, hoo])
   refine jz_keep ?_ ?_
   ·simp -dsimp -implicitDefEqProofs only [go_sem, rq1]
   refine ⟨n4, _, _, zsm, zsm, zsm, by repeat (first | exact H2.le.refl _ | apply le_push | refine le_set ?_ zau | refine le_up ?_ (by first | assumption | omega) | refine H2.le.trans ?_ l32 | refine H2.le.trans ?_ l33 | refine H2.le.trans ?_ l34 | refine H2.le.trans ?_ l35), zau, zau, by simp -dsimp -implicitDefEqProofs only [go_sem, hoo] <;> rfl, (o35.frame fun q hq => by have h1 := bl35.2 q hq; (try simp only [H2.set]); repeat (first | rfl | rw [if_neg (by first | omega | (unfold hn at *; omega))])), bl35.wide zau zau, fun hx => by have := bl35.2 _ hx; omega⟩
 intro e6 g6 hks6 ⟨blk6, ys6, b6, ep6, es6_9, es6_10, l6, hb6, hc6, rw6, o6, bl6, hnb6⟩
 try simp only [hn_up] at hb6 bl6
 have nn6 := l6.n
 try simp only [hn_up] at nn6
 have LL6 : h.le g6 := H2.le.trans zale l6
 have ln6 := LL6.n
 have row0 := l6.2 (hn h .mk) zau
 simp -dsimp -implicitDefEqProofs only [go_sem, hoo] at row0
 have row1 := l6.2 (hn h .mk + 1) zau
 simp -dsimp -implicitDefEqProofs only [go_sem, hoo] at row1
 simp -dsimp -implicitDefEqProofs only [go_sem, hoo] at hks6
 obtain ⟨s6_3, s6_4, s6_5, s6_6, s6_8, s6_9, s6_12, s6_13, s6_14, s6_15, s6_16, rfl, ce6⟩ := shEngine o6
 have ne36 : ((hn h .mk) == (blk6)) = false := zne
 have nf36 : ((blk6) == (hn h .mk)) = false := zne
 have ne37 : ((hn h .mk + 1) == (blk6)) = false := zne
 have nf37 : ((blk6) == (hn h .mk + 1)) = false := zne
 repeat (first | rw [ko] | rw [kr] | simp -dsimp -implicitDefEqProofs only [go_sem, rq1, hks6, ep6, es6_9, es6_10, row0, hoo])
 refine wz_intro (toEngine_ok (by omega)) ?_
 rintro _ g38 ⟨l38, ys38, b38, rfl, o38, bl38⟩
 try simp only [hn_push, hn_up] at bl38
 have nn38 := l38.n
 try simp only [hn_push, hn_up] at nn38
 have LL38 : g6.le g38 := H2.le.trans zale l38
 have ln38 := LL38.n
 replace o6 := o6.keep LL38 (bl6.wide (Nat.le_refl _) (by omega))
 replace row0 := (LL38.2 (hn h .mk) (by omega)).trans row0
 replace row1 := (LL38.2 (hn h .mk + 1) (by omega)).trans row1
 replace rw6 := (LL38.2 (blk6) (by omega)).trans rw6
 obtain ⟨s38_3, s38_4, s38_5, s38_6, s38_8, s38_9, s38_12, s38_13, s38_14, s38_15, s38_16, rfl, ce38⟩ := shEngine o38
 have ne39 : ((hn h .mk) == (hn g38 .mk)) = false := zne
 have nf39 : ((hn g38 .mk) == (hn h .mk)) = false := zne
 have ne40 : ((hn h .mk + 1) == (hn g38 .mk)) = false := zne
 have nf40 : ((hn g38 .mk) == (hn h .mk + 1)) = false := zne
 have ne41 : ((blk6) == (hn g38 .mk)) = false := zne
 have nf41 : ((hn g38 .mk) == (blk6)) = false := zne
 repeat (first | rw [ko] | rw [kr] | simp -dsimp -implicitDefEqProofs only [go_sem, rq1, rq2, ce38, hoo])
 refine wz_intro (toIntS_new (by omega)) ?_
 rintro s42 g42 ⟨l42, b42, o42, bl42⟩
 try simp only [hn_push] at bl42
 have nn42 := l42.n
 try simp only [hn_push] at nn42
 have LL42 : g38.le g42 := H2.le.trans zale l42
 have ln42 := LL42.n
 replace o6 := o6.keep LL42 (bl6.wide (Nat.le_refl _) (by omega))
 replace o38 := o38.keep LL42 (bl38.wide (Nat.le_refl _) (by omega))
 replace row0 := (LL42.2 (hn h .mk) (by omega)).trans row0
 replace row1 := (LL42.2 (hn h .mk + 1) (by omega)).trans row1
 replace rw6 := (LL42.2 (blk6) (by omega)).trans rw6
 have row3 := l42.2 (hn g38 .mk) zau
 simp -dsimp -implicitDefEqProofs only [go_sem, hoo] at row3
 have ce42 := OT.cell o42
 repeat (first | rw [ko] | rw [kr] | simp -dsimp -implicitDefEqProofs only [go_sem, rq1, row1, hoo])
 refine wz_intro (toConfig_ok (by omega)) ?_
 rintro _ g43 ⟨l43, ys43, b43, rfl, o43, bl43⟩
 try simp only [hn_push, hn_up] at bl43
 have nn43 := l43.n
 try simp only [hn_push, hn_up] at nn43
 have LL43 : g42.le g43 := H2.le.trans zale l43
 have ln43 := LL43.n
 replace o6 := o6.keep LL43 (bl6.wide (Nat.le_refl _) (by omega))
 replace o38 := o38.keep LL43 (bl38.wide (Nat.le_refl _) (by omega))
 replace o42 := o42.keep LL43 (bl42.wide (Nat.le_refl _) (by omega))
 replace row0 := (LL43.2 (hn h .mk) (by omega)).trans row0
 replace row1 := (LL43.2 (hn h .mk + 1) (by omega)).trans row1
 replace rw6 := (LL43.2 (blk6) (by omega)).trans rw6
 replace row3 := (LL43.2 (hn g38 .mk) (by omega)).trans row3
 obtain ⟨s43_3, rfl, ce43⟩ := shConfig o43
 have ne44 : ((hn h .mk) == (hn g43 .mk)) = false := zne
 have nf44 : ((hn g43 .mk) == (hn h .mk)) = false := zne
 have ne45 : ((hn h .mk + 1) == (hn g43 .mk)) = false := zne
 have nf45 : ((hn g43 .mk) == (hn h .mk + 1)) = false := zne
 have ne46 : ((blk6) == (hn g43 .mk)) = false := zne
 have nf46 : ((hn g43 .mk) == (blk6)) = false := zne
 have ne47 : ((hn g38 .mk) == (hn g43 .mk)) = false := zne
 have nf47 : ((hn g43 .mk) == (hn g38 .mk)) = false := zne
 repeat (first | rw [ko] | rw [kr] | simp -dsimp -implicitDefEqProofs only [go_sem, rq1, rq2, ce43, row3, ne47, hoo])
 refine wz_intro (implSubmit_tree (o38.keep zale (bl38.wide (Nat.le_refl _) (by omega))) (o42.keep zale (bl42.wide (Nat.le_refl _) (by omega))) (o43.keep zale (bl43.wide (Nat.le_refl _) (by omega))) (by omega) hrg (by omega) (by omega)) ?_
 rintro _ g48 ⟨l48, ys48, b48, rfl, o48, bl48⟩
 try simp only [hn_push] at bl48
 have nn48 := l48.n
 try simp only [hn_push] at nn48
 have LL48 : g43.le g48 := H2.le.trans zale l48
 have ln48 := LL48.n
 replace o6 := o6.keep LL48 (bl6.wide (Nat.le_refl _) (by omega))
 replace o38 := o38.keep LL48 (bl38.wide (Nat.le_refl _) (by omega))
 replace o42 := o42.keep LL48 (bl42.wide (Nat.le_refl _) (by omega))
 replace o43 := o43.keep LL48 (bl43.wide (Nat.le_refl _) (by omega))
 replace row0 := (LL48.2 (hn h .mk) (by omega)).trans row0
 replace row1 := (LL48.2 (hn h .mk + 1) (by omega)).trans row1
 replace rw6 := (LL48.2 (blk6) (by omega)).trans rw6
 replace row3 := (LL48.2 (hn g38 .mk) (by omega)).trans row3
 have row4 := l48.2 (hn g43 .mk) zau
 simp -dsimp -implicitDefEqProofs only [go_sem, hoo] at row4
 obtain ⟨s48_3, s48_4, s48_5, s48_6, s48_8, s48_9, s48_12, s48_13, s48_14, s48_15, s48_16, rfl, ce48⟩ := shEngine o48
 have ne49 : ((hn h .mk) == (hn g48 .mk)) = false := zne
 have nf49 : ((hn g48 .mk) == (hn h .mk)) = false := zne
 have ne50 : ((hn h .mk + 1) == (hn g48 .mk)) = false := zne
 have nf50 : ((hn g48 .mk) == (hn h .mk + 1)) = false := zne
 have ne51 : ((blk6) == (hn g48 .mk)) = false := zne
 have nf51 : ((hn g48 .mk) == (blk6)) = false := zne
 have ne52 : ((hn g38 .mk) == (hn g48 .mk)) = false := zne
 have nf52 : ((hn g48 .mk) == (hn g38 .mk)) = false := zne
 have ne53 : ((hn g43 .mk) == (hn g48 .mk)) = false := zne
 have nf53 : ((hn g48 .mk) == (hn g43 .mk)) = false := zne
 repeat (first | rw [ko] | rw [kr] | simp -dsimp -implicitDefEqProofs only [go_sem, rq1, rq2, ce48, rw6, ne51, hoo])
 refine pw_intro (eqEngine_tree (o48.keep zale (bl48.wide (Nat.le_refl _) (by omega))) (o6.keep zale (bl6.wide (Nat.le_refl _) (by omega))) hfe) ?_
 rintro _ n54 hn54 rfl
 have hm54 := hn54
 try simp only [hn_push] at hm54
 repeat (first | rw [ko] | rw [kr] | simp -dsimp -implicitDefEqProofs only [go_sem, rq1, hoo])
 refine dq_intro [(0, []), (1, []), (2, [0]), (3, []), (4, [])] (by kernel_rfl) ?_
 repeat (first | rw [ko] | rw [kr] | simp -dsimp -implicitDefEqProofs only [go_sem, rq1, ne49, ne52, row0, row3, hoo])
 refine wz_intro (toEngine_ok (by omega)) ?_
 rintro _ g55 ⟨l55, ys55, b55, rfl, o55, bl55⟩
 try simp only [hn_up] at bl55
 have nn55 := l55.n
 try simp only [hn_up] at nn55
 have LL55 : g48.le g55 := H2.le.trans zale l55
 have ln55 := LL55.n
 replace o6 := o6.keep LL55 (bl6.wide (Nat.le_refl _) (by omega))
 replace o38 := o38.keep LL55 (bl38.wide (Nat.le_refl _) (by omega))
 replace o42 := o42.keep LL55 (bl42.wide (Nat.le_refl _) (by omega))
 replace o43 := o43.keep LL55 (bl43.wide (Nat.le_refl _) (by omega))
 replace o48 := o48.keep LL55 (bl48.wide (Nat.le_refl _) (by omega))
 replace row0 := (LL55.2 (hn h .mk) (by omega)).trans row0
 replace row1 := (LL55.2 (hn h .mk + 1) (by omega)).trans row1
 replace rw6 := (LL55.2 (blk6) (by omega)).trans rw6
 replace row3 := (LL55.2 (hn g38 .mk) (by omega)).trans row3
 replace row4 := (LL55.2 (hn g43 .mk) (by omega)).trans row4
 have row5 := l55.2 (hn g48 .mk) zau
 simp -dsimp -implicitDefEqProofs only [go_sem, hoo] at row5
 obtain ⟨s55_3, s55_4, s55_5, s55_6, s55_8, s55_9, s55_12, s55_13, s55_14, s55_15, s55_16, rfl, ce55⟩ := shEngine o55
 rw [kq]
 refine ⟨by simp -dsimp -implicitDefEqProofs only [go_sem, rq1, row3, hoo], ?_⟩
 repeat (first | rw [ko] | rw [kr] | simp -dsimp -implicitDefEqProofs only [go_sem, hoo])
 refine pw_intro (eqEngine_tree (o38.keep zale (bl38.wide (Nat.le_refl _) (by omega))) (o55.keep zale (bl55.wide (Nat.le_refl _) (by omega))) hf0) ?_
 rintro _ n56 hn56 rfl
 have hm56 := hn56
 try simp only [hn_push, hn_up] at hm56
 repeat (first | rw [ko] | rw [kr] | simp -dsimp -implicitDefEqProofs only [go_sem, rq1, hoo])
 refine wz_intro (toIntS_new (by omega)) ?_
 rintro s57 g57 ⟨l57, b57, o57, bl57⟩
 try simp only [hn_up] at bl57
 have nn57 := l57.n
 try simp only [hn_up] at nn57
 have LL57 : g55.le g57 := H2.le.trans zale l57
 have ln57 := LL57.n
 replace o6 := o6.keep LL57 (bl6.wide (Nat.le_refl _) (by omega))
 replace o38 := o38.keep LL57 (bl38.wide (Nat.le_refl _) (by omega))
 replace o42 := o42.keep LL57 (bl42.wide (Nat.le_refl _) (by omega))
 replace o43 := o43.keep LL57 (bl43.wide (Nat.le_refl _) (by omega))
 replace o48 := o48.keep LL57 (bl48.wide (Nat.le_refl _) (by omega))
 replace row0 := (LL57.2 (hn h .mk) (by omega)).trans row0
 replace row1 := (LL57.2 (hn h .mk + 1) (by omega)).trans row1
 replace rw6 := (LL57.2 (blk6) (by omega)).trans rw6
 replace row3 := (LL57.2 (hn g38 .mk) (by omega)).trans row3
 replace row4 := (LL57.2 (hn g43 .mk) (by omega)).trans row4
 replace row5 := (LL57.2 (hn g48 .mk) (by omega)).trans row5
 have ce57 := OT.cell o57
 repeat (first | rw [ko] | rw [kr] | simp -dsimp -implicitDefEqProofs only [go_sem, hoo])
 refine pw_intro (eqIntS_tree (o42.keep zale (bl42.wide (Nat.le_refl _) (by omega))) (o57.keep zale (bl57.wide (Nat.le_refl _) (by omega))) (by omega)) ?_
 rintro _ n58 hn58 rfl
 have hm58 := hn58
 try simp only [hn_push, hn_up] at hm58
 repeat (first | rw [ko] | rw [kr] | simp -dsimp -implicitDefEqProofs only [go_sem, rq1, hoo])
 refine dq_intro [(0, []), (1, []), (2, [0]), (3, []), (4, [])] (by kernel_rfl) ?_
 repeat (first | rw [ko] | rw [kr] | simp -dsimp -implicitDefEqProofs only [go_sem, rq1, row1, row4, hoo])
 refine wz_intro (toConfig_ok (by omega)) ?_
 rintro _ g59 ⟨l59, ys59, b59, rfl, o59, bl59⟩
 try simp only [hn_up] at bl59
 have nn59 := l59.n
 try simp only [hn_up] at nn59
 have LL59 : g57.le g59 := H2.le.trans zale l59
 have ln59 := LL59.n
 replace o6 := o6.keep LL59 (bl6.wide (Nat.le_refl _) (by omega))
 replace o38 := o38.keep LL59 (bl38.wide (Nat.le_refl _) (by omega))
 replace o42 := o42.keep LL59 (bl42.wide (Nat.le_refl _) (by omega))
 replace o43 := o43.keep LL59 (bl43.wide (Nat.le_refl _) (by omega))
 replace o48 := o48.keep LL59 (bl48.wide (Nat.le_refl _) (by omega))
 replace row0 := (LL59.2 (hn h .mk) (by omega)).trans row0
 replace row1 := (LL59.2 (hn h .mk + 1) (by omega)).trans row1
 replace rw6 := (LL59.2 (blk6) (by omega)).trans rw6
 replace row3 := (LL59.2 (hn g38 .mk) (by omega)).trans row3
 replace row4 := (LL59.2 (hn g43 .mk) (by omega)).trans row4
 replace row5 := (LL59.2 (hn g48 .mk) (by omega)).trans row5
 obtain ⟨s59_3, rfl, ce59⟩ := shConfig o59
 rw [kq]
 refine ⟨by simp -dsimp -implicitDefEqProofs only [go_sem, rq1, row4, hoo], ?_⟩
 repeat (first | rw [ko] | rw [kr] | simp -dsimp -implicitDefEqProofs only [go_sem, hoo])
 refine pw_intro (eqConfig_tree (o43.keep zale (bl43.wide (Nat.le_refl _) (by omega))) (o59.keep zale (bl59.wide (Nat.le_refl _) (by omega))) hf2) ?_
 rintro _ n60 hn60 rfl
 have hm60 := hn60
 try simp only [hn_push, hn_up] at hm60
 repeat (first | rw [ko] | rw [kr] | simp -dsimp -implicitDefEqProofs only [go_sem, rq1, row3, hoo])
 refine wz_intro (markEngine_treeJ (o38.keep zale (bl38.wide (Nat.le_refl _) (by omega))) (bl38.wide (Nat.le_refl _) zau) ⟨by omega, by omega⟩) ?_
 rintro _ g61 ⟨k61, z61, rfl, lo61, hi61, o38', hd61, nn61, fr61⟩
 try simp only [hn_up] at nn61
 have FR61 : ∀ {b : Nat}, b < hn g59 .mk → b ∉ b38 → g61.get b = g59.get b := fun {b} h1 h2 => (show g61.get b = _ from fr61 b zau h2).trans (by exact zfz)
 replace o6 := o6.frame fun b hb => FR61 (by have := (bl6.2 b hb).2; omega) (fun hx => by have := bl6.2 b hb; have := bl38.2 b hx; omega)
 replace o42 := o42.frame fun b hb => FR61 (by have := (bl42.2 b hb).2; omega) (fun hx => by have := bl42.2 b hb; have := bl38.2 b hx; omega)
 replace o43 := o43.frame fun b hb => FR61 (by have := (bl43.2 b hb).2; omega) (fun hx => by have := bl43.2 b hb; have := bl38.2 b hx; omega)
 replace o48 := o48.frame fun b hb => FR61 (by have := (bl48.2 b hb).2; omega) (fun hx => by have := bl48.2 b hb; have := bl38.2 b hx; omega)
 replace o38 := o38'
 replace row0 := (show hg g61 (hn h .mk) .mk = _ from FR61 (by omega) (fun hx => by have := bl38.2 _ hx; omega)).trans row0
 replace row1 := (show hg g61 (hn h .mk + 1) .mk = _ from FR61 (by omega) (fun hx => by have := bl38.2 _ hx; omega)).trans row1
 replace rw6 := (show hg g61 (blk6) .mk = _ from FR61 (by omega) (fun hx => by have := bl38.2 _ hx; omega)).trans rw6
 replace row3 := (show hg g61 (hn g38 .mk) .mk = _ from FR61 (by omega) (fun hx => by have := bl38.2 _ hx; omega)).trans row3
 replace row4 := (show hg g61 (hn g43 .mk) .mk = _ from FR61 (by omega) (fun hx => by have := bl38.2 _ hx; omega)).trans row4
 replace row5 := (show hg g61 (hn g48 .mk) .mk = _ from FR61 (by omega) (fun hx => by have := bl38.2 _ hx; omega)).trans row5
 have kp61 : 0 ≤ k61 := by omega
 have kq61 : ¬ k61 < 0 := by omega
 repeat (first | rw [ko] | rw [kr] | simp -dsimp -implicitDefEqProofs only [go_sem, rq1, hoo])
 refine wz_intro (markIntS_tree (o42.keep zale (bl42.wide (Nat.le_refl _) (by omega))) (bl42.wide (Nat.le_refl _) zau) ⟨by omega, by omega⟩) ?_
 rintro _ g62 ⟨k62, z62, rfl, lo62, hi62, o42', hd62, nn62, fr62⟩
 try simp only [hn_push, hn_up] at nn62
 have FR62 : ∀ {b : Nat}, b < hn g61 .mk → b ∉ b42 → g62.get b = g61.get b := fun {b} h1 h2 => (show g62.get b = _ from fr62 b zau h2).trans (by exact zfz)
 replace o6 := o6.frame fun b hb => FR62 (by have := (bl6.2 b hb).2; omega) (fun hx => by have := bl6.2 b hb; have := bl42.2 b hx; omega)
 replace o43 := o43.frame fun b hb => FR62 (by have := (bl43.2 b hb).2; omega) (fun hx => by have := bl43.2 b hb; have := bl42.2 b hx; omega)
 replace o48 := o48.frame fun b hb => FR62 (by have := (bl48.2 b hb).2; omega) (fun hx => by have := bl48.2 b hb; have := bl42.2 b hx; omega)
 replace o42 := o42'
 replace row0 := (show hg g62 (hn h .mk) .mk = _ from FR62 (by omega) (fun hx => by have := bl42.2 _ hx; omega)).trans row0
 replace row1 := (show hg g62 (hn h .mk + 1) .mk = _ from FR62 (by omega) (fun hx => by have := bl42.2 _ hx; omega)).trans row1
 replace rw6 := (show hg g62 (blk6) .mk = _ from FR62 (by omega) (fun hx => by have := bl42.2 _ hx; omega)).trans rw6
 replace row3 := (show hg g62 (hn g38 .mk) .mk = _ from FR62 (by omega) (fun hx => by have := bl42.2 _ hx; omega)).trans row3
 replace row4 := (show hg g62 (hn g43 .mk) .mk = _ from FR62 (by omega) (fun hx => by have := bl42.2 _ hx; omega)).trans row4
 replace row5 := (show hg g62 (hn g48 .mk) .mk = _ from FR62 (by omega) (fun hx => by have := bl42.2 _ hx; omega)).trans row5
 have kp62 : 0 ≤ k62 := by omega
 have kq62 : ¬ k62 < 0 := by omega
 repeat (first | rw [ko] | rw [kr] | simp -dsimp -implicitDefEqProofs only [go_sem, rq1, row4, hoo])
 refine wz_intro (markConfig_treeJ (o43.keep zale (bl43.wide (Nat.le_refl _) (by omega))) (bl43.wide (Nat.le_refl _) zau) ⟨by omega, by omega⟩) ?_
 rintro _ g63 ⟨k63, z63, rfl, lo63, hi63, o43', nn63, fr63⟩
 try simp only [hn_push, hn_up] at nn63
 have FR63 : ∀ {b : Nat}, b < hn g62 .mk → b ∉ b43 → g63.get b = g62.get b := fun {b} h1 h2 => (show g63.get b = _ from fr63 b zau h2).trans (by exact zfz)
 replace o6 := o6.frame fun b hb => FR63 (by have := (bl6.2 b hb).2; omega) (fun hx => by have := bl6.2 b hb; have := bl43.2 b hx; omega)
 replace o48 := o48.frame fun b hb => FR63 (by have := (bl48.2 b hb).2; omega) (fun hx => by have := bl48.2 b hb; have := bl43.2 b hx; omega)
 replace o43 := o43'
 replace row0 := (show hg g63 (hn h .mk) .mk = _ from FR63 (by omega) (fun hx => by have := bl43.2 _ hx; omega)).trans row0
 replace row1 := (show hg g63 (hn h .mk + 1) .mk = _ from FR63 (by omega) (fun hx => by have := bl43.2 _ hx; omega)).trans row1
 replace rw6 := (show hg g63 (blk6) .mk = _ from FR63 (by omega) (fun hx => by have := bl43.2 _ hx; omega)).trans rw6
 replace row3 := (show hg g63 (hn g38 .mk) .mk = _ from FR63 (by omega) (fun hx => by have := bl43.2 _ hx; omega)).trans row3
 replace row4 := (show hg g63 (hn g43 .mk) .mk = _ from FR63 (by omega) (fun hx => by have := bl43.2 _ hx; omega)).trans row4
 replace row5 := (show hg g63 (hn g48 .mk) .mk = _ from FR63 (by omega) (fun hx => by have := bl43.2 _ hx; omega)).trans row5
 have kp63 : 0 ≤ k63 := by omega
 have kq63 : ¬ k63 < 0 := by omega
 repeat (first | rw [ko] | rw [kr] | simp -dsimp -implicitDefEqProofs only [go_sem, rq1, kq63, rw6, row5, hoo])
 refine pw_intro (eqEngine_tree (o48.keep zale (bl48.wide (Nat.le_refl _) (by omega))) (o6.keep zale (bl6.wide (Nat.le_refl _) (by omega))) hfe) ?_
 rintro _ n64 hn64 rfl
 have hm64 := hn64
 try simp only [hn_push, hn_up] at hm64
 repeat (first | rw [ko] | rw [kr] | simp -dsimp -implicitDefEqProofs only [go_sem, rq1, row5, hoo])
 refine wz_intro (markEngine_treeJ (o48.keep zale (bl48.wide (Nat.le_refl _) (by omega))) (bl48.wide (Nat.le_refl _) zau) ⟨by omega, by omega⟩) ?_
 rintro _ g65 ⟨k65, z65, rfl, lo65, hi65, o48', hd65, nn65, fr65⟩
 try simp only [hn_up] at nn65
 have FR65 : ∀ {b : Nat}, b < hn g63 .mk → b ∉ b48 → g65.get b = g63.get b := fun {b} h1 h2 => (show g65.get b = _ from fr65 b zau h2).trans (by exact zfz)
 replace o6 := o6.frame fun b hb => FR65 (by have := (bl6.2 b hb).2; omega) (fun hx => by have := bl6.2 b hb; have := bl48.2 b hx; omega)
 replace o48 := o48'
 replace row0 := (show hg g65 (hn h .mk) .mk = _ from FR65 (by omega) (fun hx => by have := bl48.2 _ hx; omega)).trans row0
 replace row1 := (show hg g65 (hn h .mk + 1) .mk = _ from FR65 (by omega) (fun hx => by have := bl48.2 _ hx; omega)).trans row1
 replace rw6 := (show hg g65 (blk6) .mk = _ from FR65 (by omega) (fun hx => by have := bl48.2 _ hx; omega)).trans rw6
 replace row3 := (show hg g65 (hn g38 .mk) .mk = _ from FR65 (by omega) (fun hx => by have := bl48.2 _ hx; omega)).trans row3
 replace row4 := (show hg g65 (hn g43 .mk) .mk = _ from FR65 (by omega) (fun hx => by have := bl48.2 _ hx; omega)).trans row4
 replace row5 := (show hg g65 (hn g48 .mk) .mk = _ from FR65 (by omega) (fun hx => by have := bl48.2 _ hx; omega)).trans row5
 have kp65 : 0 ≤ k65 := by omega
 have kq65 : ¬ k65 < 0 := by omega
 repeat (first | rw [ko] | rw [kr] | simp -dsimp -implicitDefEqProofs only [go_sem, rq1, row5, hoo])
 refine pw_intro (heldEngine_tree (o48.keep zale (bl48.wide (Nat.le_refl _) (by omega))) hd65) ?_
 rintro _ n66 hn66 rfl
 have hm66 := hn66
 try simp only [hn_push, hn_up] at hm66
 repeat (first | rw [ko] | rw [kr] | simp -dsimp -implicitDefEqProofs only [go_sem, rq1, kq65, hoo])
 refine drz_midG [8, 9, 10, 14, 18] (MidFnExactSubmit37 e p c) ?_ ?_
 ·refine dt_intro (.op 0 [] (.op 2 [] (.op 4 [] (.alt (.op 1 [4] (.alt (.op 3 [4] (.alt (.op 5 [] (.alt (.op 6 [] (.op 7 [] (.op 8 [] (.op 9 [] (.op 10 [] (.op 11 [0, 4] (.op 12 [] (.op 13 [] (.op 14 [] .nil))))))))) (.op 11 [0, 4] (.op 6 [] (.op 7 [] (.op 8 [] (.op 9 [] (.op 10 [] (.op 12 [] (.op 13 [] (.op 14 [] .nil))))))))))) (.op 11 [0, 4] (.op 5 [] (.op 6 [] (.op 7 [] (.op 8 [] (.op 9 [] (.op 10 [] (.op 12 [] (.op 13 [] (.op 14 [] .nil)))))))))))) (.op 11 [0, 4] (.op 3 [4] (.op 5 [] (.op 6 [] (.op 7 [] (.op 8 [] (.op 9 [] (.op 10 [] (.op 12 [] (.op 13 [] (.op 14 [] .nil))))))))))))) (.op 11 [0, 4] (.op 1 [4] (.op 3 [4] (.op 5 [] (.op 6 [] (.op 7 [] (.op 8 [] (.op 9 [] (.op 10 [] (.op 12 [] (.op 13 [] (.op 14 [] .nil)))))))))))))))) (by kernel_rfl) ?_
  repeat (first | rw [ko] | rw [kr] | simp -dsimp -implicitDefEqProofs only [go_sem, rq1, row0, row1, hoo])
  rw [run_alt]
  refine ⟨?_, ?_⟩
  ·repeat (first | rw [ko] | rw [kr] | simp -dsimp -implicitDefEqProofs only [go_sem, hoo])
   refine wz_intro (toEngine_ok (by omega)) ?_
   rintro _ g68 ⟨l68, ys68, b68, rfl, o68, bl68⟩
   try simp only [hn_up] at bl68
   have nn68 := l68.n
   try simp only [hn_up] at nn68
   have LL68 : g65.le g68 := H2.le.trans zale l68
   have ln68 := LL68.n
   replace o6 := o6.keep LL68 (bl6.wide (Nat.le_refl _) (by omega))
   replace o48 := o48.keep LL68 (bl48.wide (Nat.le_refl _) (by omega))
   replace row0 := (LL68.2 (hn h .mk) (by omega)).trans row0
   replace row1 := (LL68.2 (hn h .mk + 1) (by omega)).trans row1
   replace rw6 := (LL68.2 (blk6) (by omega)).trans rw6
   replace row3 := (LL68.2 (hn g38 .mk) (by omega)).trans row3
   replace row4 := (LL68.2 (hn g43 .mk) (by omega)).trans row4
   replace row5 := (LL68.2 (hn g48 .mk) (by omega)).trans row5
   obtain ⟨s68_3, s68_4, s68_5, s68_6, s68_8, s68_9, s68_12, s68_13, s68_14, s68_15, s68_16, rfl, ce68⟩ := shEngine o68
   rw [kq]
   refine ⟨by simp -dsimp -implicitDefEqProofs only [go_sem, rq1, row1, hoo], ?_⟩
   repeat (first | rw [ko] | rw [kr] | simp -dsimp -implicitDefEqProofs only [go_sem, rq1, rq2, rq3, rq4, rq5, rq6, rq7, ne36, nf36, ne37, nf37, hks6, ep6, es6_9, es6_10, ne39, nf39, ne40, nf40, ne41, nf41, ne44, nf44, ne45, nf45, ne46, nf46, ne47, nf47, ne49, nf49, ne50, nf50, ne51, nf51, ne52, nf52, ne53, nf53, kq61, kq62, kq63, kq65, ce6, ce38, ce42, ce43, ce48, ce68, row0, row1, rw6, row3, row4, row5, hoo])
   rw [run_alt]
   refine ⟨?_, ?_⟩
   ·repeat (first | rw [ko] | rw [kr] | simp -dsimp -implicitDefEqProofs only [go_sem, hoo])
    refine wz_intro (toIntS_new (by omega)) ?_
    rintro s69 g69 ⟨l69, b69, o69, bl69⟩
    try simp only [hn_push, hn_up] at bl69
    have nn69 := l69.n
    try simp only [hn_push, hn_up] at nn69
    have LL69 : g68.le g69 := H2.le.trans zale l69
    have ln69 := LL69.n
    replace o6 := o6.keep LL69 (bl6.wide (Nat.le_refl _) (by omega))
    replace o48 := o48.keep LL69 (bl48.wide (Nat.le_refl _) (by omega))
    replace o68 := o68.keep LL69 (bl68.wide (Nat.le_refl _) (by omega))
    replace row0 := (LL69.2 (hn h .mk) (by omega)).trans row0
    replace row1 := (LL69.2 (hn h .mk + 1) (by omega)).trans row1
    replace rw6 := (LL69.2 (blk6) (by omega)).trans rw6
    replace row3 := (LL69.2 (hn g38 .mk) (by omega)).trans row3
    replace row4 := (LL69.2 (hn g43 .mk) (by omega)).trans row4
    replace row5 := (LL69.2 (hn g48 .mk) (by omega)).trans row5
    have ce69 := OT.cell o69
    rw [kq]
    refine ⟨by simp -dsimp -implicitDefEqProofs only [go_sem, rq1, row1, hoo], ?_⟩
    repeat (first | rw [ko] | rw [kr] | simp -dsimp -implicitDefEqProofs only [go_sem, rq1, rq2, rq3, rq4, rq5, rq6, rq7, ne36, nf36, ne37, nf37, hks6, ep6, es6_9, es6_10, ne39, nf39, ne40, nf40, ne41, nf41, ne44, nf44, ne45, nf45, ne46, nf46, ne47, nf47, ne49, nf49, ne50, nf50, ne51, nf51, ne52, nf52, ne53, nf53, kq61, kq62, kq63, kq65, ce6, ce38, ce42, ce43, ce48, ce68, ce69, row0, row1, rw6, row3, row4, row5, hoo])
    rw [run_alt]
    refine ⟨?_, ?_⟩
    ·repeat (first | rw [ko] | rw [kr] | simp -dsimp -implicitDefEqProofs only [go_sem, hoo])
     refine wz_intro (toConfig_ok (by omega)) ?_
     rintro _ g70 ⟨l70, ys70, b70, rfl, o70, bl70⟩
     try simp only [hn_push, hn_up] at bl70
     have nn70 := l70.n
     try simp only [hn_push, hn_up] at nn70
     have LL70 : g69.le g70 := H2.le.trans zale l70
     have ln70 := LL70.n
     replace o6 := o6.keep LL70 (bl6.wide (Nat.le_refl _) (by omega))
     replace o48 := o48.keep LL70 (bl48.wide (Nat.le_refl _) (by omega))
     replace o68 := o68.keep LL70 (bl68.wide (Nat.le_refl _) (by omega))
     replace o69 := o69.keep LL70 (bl69.wide (Nat.le_refl _) (by omega))
     replace row0 := (LL70.2 (hn h .mk) (by omega)).trans row0
     replace row1 := (LL70.2 (hn h .mk + 1) (by omega)).trans row1
     replace rw6 := (LL70.2 (blk6) (by omega)).trans rw6
     replace row3 := (LL70.2 (hn g38 .mk) (by omega)).trans row3
     replace row4 := (LL70.2 (hn g43 .mk) (by omega)).trans row4
     replace row5 := (LL70.2 (hn g48 .mk) (by omega)).trans row5
     obtain ⟨s70_3, rfl, ce70⟩ := shConfig o70
     repeat (first | rw [ko] | rw [kr] | simp -dsimp -implicitDefEqProofs only [go_sem, rq1, rq2, rq3, rq4, rq5, rq6, rq7, ne36, nf36, ne37, nf37, hks6, ep6, es6_9, es6_10, ne39, nf39, ne40, nf40, ne41, nf41, ne44, nf44, ne45, nf45, ne46, nf46, ne47, nf47, ne49, nf49, ne50, nf50, ne51, nf51, ne52, nf52, ne53, nf53, kq61, kq62, kq63, kq65, ce6, ce38, ce42, ce43, ce48, ce68, ce69, ce70, row0, row1, rw6, row3, row4, row5, hoo])
     rw [run_alt]
     refine ⟨?_, ?_⟩
     ·repeat (first | rw [ko] | rw [kr] | simp -dsimp -implicitDefEqProofs only [go_sem, hoo])
      refine wz_intro (implSubmit_tree (o68.keep zale (bl68.wide (Nat.le_refl _) (by omega))) (o69.keep zale (bl69.wide (Nat.le_refl _) (by omega))) (o70.keep zale (bl70.wide (Nat.le_refl _) (by omega))) (by omega) hrg (by omega) (by omega)) ?_
      rintro _ g71 ⟨l71, ys71, b71, rfl, o71, bl71⟩
      try simp only [hn_push, hn_up] at bl71
      have nn71 := l71.n
      try simp only [hn_push, hn_up] at nn71
      have LL71 : g70.le g71 := H2.le.trans zale l71
      have ln71 := LL71.n
      replace o6 := o6.keep LL71 (bl6.wide (Nat.le_refl _) (by omega))
      replace o48 := o48.keep LL71 (bl48.wide (Nat.le_refl _) (by omega))
      replace o68 := o68.keep LL71 (bl68.wide (Nat.le_refl _) (by omega))
      replace o69 := o69.keep LL71 (bl69.wide (Nat.le_refl _) (by omega))
      replace o70 := o70.keep LL71 (bl70.wide (Nat.le_refl _) (by omega))
      replace row0 := (LL71.2 (hn h .mk) (by omega)).trans row0
      replace row1 := (LL71.2 (hn h .mk + 1) (by omega)).trans row1
      replace rw6 := (LL71.2 (blk6) (by omega)).trans rw6
      replace row3 := (LL71.2 (hn g38 .mk) (by omega)).trans row3
      replace row4 := (LL71.2 (hn g43 .mk) (by omega)).trans row4
      replace row5 := (LL71.2 (hn g48 .mk) (by omega)).trans row5
      obtain ⟨s71_3, s71_4, s71_5, s71_6, s71_8, s71_9, s71_12, s71_13, s71_14, s71_15, s71_16, rfl, ce71⟩ := shEngine o71
      have ne72 : ((hn h .mk) == (hn g71 .mk)) = false := zne
      have nf72 : ((hn g71 .mk) == (hn h .mk)) = false := zne
      have ne73 : ((hn h .mk + 1) == (hn g71 .mk)) = false := zne
      have nf73 : ((hn g71 .mk) == (hn h .mk + 1)) = false := zne
      have ne74 : ((blk6) == (hn g71 .mk)) = false := zne
      have nf74 : ((hn g71 .mk) == (blk6)) = false := zne
      have ne75 : ((hn g38 .mk) == (hn g71 .mk)) = false := zne
      have nf75 : ((hn g71 .mk) == (hn g38 .mk)) = false := zne
      have ne76 : ((hn g43 .mk) == (hn g71 .mk)) = false := zne
      have nf76 : ((hn g71 .mk) == (hn g43 .mk)) = false := zne
      have ne77 : ((hn g48 .mk) == (hn g71 .mk)) = false := zne
      have nf77 : ((hn g71 .mk) == (hn g48 .mk)) = false := zne
      repeat (first | rw [ko] | rw [kr] | simp -dsimp -implicitDefEqProofs only [go_sem, rq1, rq2, ce71, row0, row1, ne72, ne73, hoo])
      refine jz_keep ?_ ?_
      ·simp -dsimp -implicitDefEqProofs only [go_sem, rq1]
      refine ⟨hn g71 .mk, _, _, zsm, zsm, zsm, by repeat (first | exact H2.le.refl _ | apply le_push | refine le_set ?_ zau | refine le_up ?_ (by first | assumption | omega) | refine H2.le.trans ?_ l68 | refine H2.le.trans ?_ l69 | refine H2.le.trans ?_ l70 | refine H2.le.trans ?_ l71), zau, zau, by simp -dsimp -implicitDefEqProofs only [go_sem, hoo] <;> rfl, (o71.frame fun q hq => by have h1 := bl71.2 q hq; (try simp only [H2.push]); repeat (first | rfl | rw [if_neg (by first | omega | (unfold hn at *; omega))])), bl71.wide zau zau, fun hx => by have := bl71.2 _ hx; omega⟩
     ·have ne79 : ((hn h .mk) == (hn g70 .mk)) = false := zne
      have nf79 : ((hn g70 .mk) == (hn h .mk)) = false := zne
      have ne80 : ((hn h .mk + 1) == (hn g70 .mk)) = false := zne
      have nf80 : ((hn g70 .mk) == (hn h .mk + 1)) = false := zne
      have ne81 : ((blk6) == (hn g70 .mk)) = false := zne
      have nf81 : ((hn g70 .mk) == (blk6)) = false := zne
      have ne82 : ((hn g38 .mk) == (hn g70 .mk)) = false := zne
      have nf82 : ((hn g70 .mk) == (hn g38 .mk)) = false := zne
      have ne83 : ((hn g43 .mk) == (hn g70 .mk)) = false := zne
      have nf83 : ((hn g70 .mk) == (hn g43 .mk)) = false := zne
      have ne84 : ((hn g48 .mk) == (hn g70 .mk)) = false := zne
      have nf84 : ((hn g70 .mk) == (hn g48 .mk)) = false := zne
      repeat (first | rw [ko] | rw [kr] | simp -dsimp -implicitDefEqProofs only [go_sem, rq1, row0, row1, ne79, ne80, hoo])
      refine wz_intro (implSubmit_tree (o68.keep zale (bl68.wide (Nat.le_refl _) (by omega))) (o69.keep zale (bl69.wide (Nat.le_refl _) (by omega))) (o70.keep zale (bl70.wide (Nat.le_refl _) (by omega))) (by omega) hrg (by omega) (by omega)) ?_
      rintro _ g86 ⟨l86, ys86, b86, rfl, o86, bl86⟩
      try simp only [hn_push] at bl86
      have nn86 := l86.n
      try simp only [hn_push] at nn86
      have LL86 : g70.le g86 := H2.le.trans zale l86
      have ln86 := LL86.n
      replace o6 := o6.keep LL86 (bl6.wide (Nat.le_refl _) (by omega))
      replace o48 := o48.keep LL86 (bl48.wide (Nat.le_refl _) (by omega))
      replace o68 := o68.keep LL86 (bl68.wide (Nat.le_refl _) (by omega))
      replace o69 := o69.keep LL86 (bl69.wide (Nat.le_refl _) (by omega))
      replace row0 := (LL86.2 (hn h .mk) (by omega)).trans row0
      replace row1 := (LL86.2 (hn h .mk + 1) (by omega)).trans row1
      replace rw6 := (LL86.2 (blk6) (by omega)).trans rw6
      replace row3 := (LL86.2 (hn g38 .mk) (by omega)).trans row3
      replace row4 := (LL86.2 (hn g43 .mk) (by omega)).trans row4
      replace row5 := (LL86.2 (hn g48 .mk) (by omega)).trans row5
      have rowz85 := l86.2 (hn g70 .mk) zau
      simp -dsimp -implicitDefEqProofs only [go_sem, hoo] at rowz85
      obtain ⟨s86_3, s86_4, s86_5, s86_6, s86_8, s86_9, s86_12, s86_13, s86_14, s86_15, s86_16, rfl, ce86⟩ := shEngine o86
      repeat (first | rw [ko] | rw [kr] | simp -dsimp -implicitDefEqProofs only [go_sem, rq1, rq2, ce86, rowz85, hoo])
      refine jz_keep ?_ ?_
      ·simp -dsimp -implicitDefEqProofs only [go_sem, rq1]
      refine ⟨hn g70 .mk, _, _, zsm, zsm, zsm, by repeat (first | exact H2.le.refl _ | apply le_push | refine le_set ?_ zau | refine le_up ?_ (by first | assumption | omega) | refine H2.le.trans ?_ l68 | refine H2.le.trans ?_ l69 | refine H2.le.trans ?_ l70 | refine H2.le.trans ?_ l86), zau, zau, by simp -dsimp -implicitDefEqProofs only [go_sem, hoo] <;> rfl, (o86.frame fun q hq => by have h1 := bl86.2 q hq; (try simp only [H2.set]); repeat (first | rfl | rw [if_neg (by first | omega | (unfold hn at *; omega))])), bl86.wide zau zau, fun hx => by have := bl86.2 _ hx; omega⟩
    ·have ne87 : ((hn h .mk) == (hn g69 .mk)) = false := zne
     have nf87 : ((hn g69 .mk) == (hn h .mk)) = false := zne
     have ne88 : ((hn h .mk + 1) == (hn g69 .mk)) = false := zne
     have nf88 : ((hn g69 .mk) == (hn h .mk + 1)) = false := zne
     have ne89 : ((blk6) == (hn g69 .mk)) = false := zne
     have nf89 : ((hn g69 .mk) == (blk6)) = false := zne
     have ne90 : ((hn g38 .mk) == (hn g69 .mk)) = false := zne
     have nf90 : ((hn g69 .mk) == (hn g38 .mk)) = false := zne
     have ne91 : ((hn g43 .mk) == (hn g69 .mk)) = false := zne
     have nf91 : ((hn g69 .mk) == (hn g43 .mk)) = false := zne
     have ne92 : ((hn g48 .mk) == (hn g69 .mk)) = false := zne
     have nf92 : ((hn g69 .mk) == (hn g48 .mk)) = false := zne
     repeat (first | rw [ko] | rw [kr] | simp -dsimp -implicitDefEqProofs only [go_sem, rq1, row0, row1, ne87, ne88, hoo])
     refine wz_intro (toConfig_ok (by omega)) ?_
     rintro _ g94 ⟨l94, ys94, b94, rfl, o94, bl94⟩
     try simp only [hn_push] at bl94
     have nn94 := l94.n
     try simp only [hn_push] at nn94
     have LL94 : g69.le g94 := H2.le.trans zale l94
     have ln94 := LL94.n
     replace o6 := o6.keep LL94 (bl6.wide (Nat.le_refl _) (by omega))
     replace o48 := o48.keep LL94 (bl48.wide (Nat.le_refl _) (by omega))
     replace o68 := o68.keep LL94 (bl68.wide (Nat.le_refl _) (by omega))
     replace o69 := o69.keep LL94 (bl69.wide (Nat.le_refl _) (by omega))
     replace row0 := (LL94.2 (hn h .mk) (by omega)).trans row0
     replace row1 := (LL94.2 (hn h .mk + 1) (by omega)).trans row1
     replace rw6 := (LL94.2 (blk6) (by omega)).trans rw6
     replace row3 := (LL94.2 (hn g38 .mk) (by omega)).trans row3
     replace row4 := (LL94.2 (hn g43 .mk) (by omega)).trans row4
     replace row5 := (LL94.2 (hn g48 .mk) (by omega)).trans row5
     have rowz93 := l94.2 (hn g69 .mk) zau
     simp -dsimp -implicitDefEqProofs only [go_sem, hoo] at rowz93
     obtain ⟨s94_3, rfl, ce94⟩ := shConfig o94
     repeat (first | rw [ko] | rw [kr] | simp -dsimp -implicitDefEqProofs only [go_sem, rq1, hoo])
     refine wz_intro (implSubmit_tree (o68.keep zale (bl68.wide (Nat.le_refl _) (by omega))) (o69.keep zale (bl69.wide (Nat.le_refl _) (by omega))) (o94.keep zale (bl94.wide (Nat.le_refl _) (by omega))) (by omega) hrg (by omega) (by omega)) ?_
     rintro _ g95 ⟨l95, ys95, b95, rfl, o95, bl95⟩
     try simp only [hn_push, hn_up] at bl95
     have nn95 := l95.n
     try simp only [hn_push, hn_up] at nn95
     have LL95 : g94.le g95 := H2.le.trans zale l95
     have ln95 := LL95.n
     replace o6 := o6.keep LL95 (bl6.wide (Nat.le_refl _) (by omega))
     replace o48 := o48.keep LL95 (bl48.wide (Nat.le_refl _) (by omega))
     replace o68 := o68.keep LL95 (bl68.wide (Nat.le_refl _) (by omega))
     replace row0 := (LL95.2 (hn h .mk) (by omega)).trans row0
     replace row1 := (LL95.2 (hn h .mk + 1) (by omega)).trans row1
     replace rw6 := (LL95.2 (blk6) (by omega)).trans rw6
     replace row3 := (LL95.2 (hn g38 .mk) (by omega)).trans row3
     replace row4 := (LL95.2 (hn g43 .mk) (by omega)).trans row4
     replace row5 := (LL95.2 (hn g48 .mk) (by omega)).trans row5
     replace rowz93 := (LL95.2 (hn g69 .mk) (by omega)).trans rowz93
     obtain ⟨s95_3, s95_4, s95_5, s95_6, s95_8, s95_9, s95_12, s95_13, s95_14, s95_15, s95_16, rfl, ce95⟩ := shEngine o95
     repeat (first | rw [ko] | rw [kr] | simp -dsimp -implicitDefEqProofs only [go_sem, rq1, rq2, ce95, rowz93, hoo])
     refine jz_keep ?_ ?_
     ·simp -dsimp -implicitDefEqProofs only [go_sem, rq1]
     refine ⟨hn g69 .mk, _, _, zsm, zsm, zsm, by repeat (first | exact H2.le.refl _ | apply le_push | refine le_set ?_ zau | refine le_up ?_ (by first | assumption | omega) | refine H2.le.trans ?_ l68 | refine H2.le.trans ?_ l69 | refine H2.le.trans ?_ l94 | refine H2.le.trans ?_ l95), zau, zau, by simp -dsimp -implicitDefEqProofs only [go_sem, hoo] <;> rfl, (o95.frame fun q hq => by have h1 := bl95.2 q hq; (try simp only [H2.set]); repeat (first | rfl | rw [if_neg (by first | omega | (unfold hn at *; omega))])), bl95.wide zau zau, fun hx => by have := bl95.2 _ hx; omega⟩
   ·have ne96 : ((hn h .mk) == (hn g68 .mk)) = false := zne
    have nf96 : ((hn g68 .mk) == (hn h .mk)) = false := zne
    have ne97 : ((hn h .mk + 1) == (hn g68 .mk)) = false := zne
    have nf97 : ((hn g68 .mk) == (hn h .mk + 1)) = false := zne
    have ne98 : ((blk6) == (hn g68 .mk)) = false := zne
    have nf98 : ((hn g68 .mk) == (blk6)) = false := zne
    have ne99 : ((hn g38 .mk) == (hn g68 .mk)) = false := zne
    have nf99 : ((hn g68 .mk) == (hn g38 .mk)) = false := zne
    have ne100 : ((hn g43 .mk) == (hn g68 .mk)) = false := zne
    have nf100 : ((hn g68 .mk) == (hn g43 .mk)) = false := zne
    have ne101 : ((hn g48 .mk) == (hn g68 .mk)) = false := zne
    have nf101 : ((hn g68 .mk) == (hn g48 .mk)) = false := zne
    repeat (first | rw [ko] | rw [kr] | simp -dsimp -implicitDefEqProofs only [go_sem, rq1, row0, row1, ne96, ne97, hoo])
    refine wz_intro (toIntS_new (by omega)) ?_
    rintro s103 g103 ⟨l103, b103, o103, bl103⟩
    try simp only [hn_push] at bl103
    have nn103 := l103.n
    try simp only [hn_push] at nn103
    have LL103 : g68.le g103 := H2.le.trans zale l103
    have ln103 := LL103.n
    replace o6 := o6.keep LL103 (bl6.wide (Nat.le_refl _) (by omega))
    replace o48 := o48.keep LL103 (bl48.wide (Nat.le_refl _) (by omega))
    replace o68 := o68.keep LL103 (bl68.wide (Nat.le_refl _) (by omega))
    replace row0 := (LL103.2 (hn h .mk) (by omega)).trans row0
    replace row1 := (LL103.2 (hn h .mk + 1) (by omega)).trans row1
    replace rw6 := (LL103.2 (blk6) (by omega)).trans rw6
    replace row3 := (LL103.2 (hn g38 .mk) (by omega)).trans row3
    replace row4 := (LL103.2 (hn g43 .mk) (by omega)).trans row4
    replace row5 := (LL103.2 (hn g48 .mk) (by omega)).trans row5
    have rowz102 := l103.2 (hn g68 .mk) zau
    simp -dsimp -implicitDefEqProofs only [go_sem, hoo] at rowz102
    have ce103 := OT.cell o103
    rw [kq]
    refine ⟨by simp -dsimp -implicitDefEqProofs only [go_sem, rq1, row1, hoo], ?_⟩
    repeat (first | rw [ko] | rw [kr] | simp -dsimp -implicitDefEqProofs only [go_sem, rq1, hoo])
    refine wz_intro (toConfig_ok (by omega)) ?_
    rintro _ g104 ⟨l104, ys104, b104, rfl, o104, bl104⟩
    try simp only [hn_push, hn_up] at bl104
    have nn104 := l104.n
    try simp only [hn_push, hn_up] at nn104
    have LL104 : g103.le g104 := H2.le.trans zale l104
    have ln104 := LL104.n
    replace o6 := o6.keep LL104 (bl6.wide (Nat.le_refl _) (by omega))
    replace o48 := o48.keep LL104 (bl48.wide (Nat.le_refl _) (by omega))
    replace o68 := o68.keep LL104 (bl68.wide (Nat.le_refl _) (by omega))
    replace o103 := o103.keep LL104 (bl103.wide (Nat.le_refl _) (by omega))
    replace row0 := (LL104.2 (hn h .mk) (by omega)).trans row0
    replace row1 := (LL104.2 (hn h .mk + 1) (by omega)).trans row1
    replace rw6 := (LL104.2 (blk6) (by omega)).trans rw6
    replace row3 := (LL104.2 (hn g38 .mk) (by omega)).trans row3
    replace row4 := (LL104.2 (hn g43 .mk) (by omega)).trans row4
    replace row5 := (LL104.2 (hn g48 .mk) (by omega)).trans row5
    replace rowz102 := (LL104.2 (hn g68 .mk) (by omega)).trans rowz102
    obtain ⟨s104_3, rfl, ce104⟩ := shConfig o104
    repeat (first | rw [ko] | rw [kr] | simp -dsimp -implicitDefEqProofs only [go_sem, rq1, hoo])
    refine wz_intro (implSubmit_tree (o68.keep zale (bl68.wide (Nat.le_refl _) (by omega))) (o103.keep zale (bl103.wide (Nat.le_refl _) (by omega))) (o104.keep zale (bl104.wide (Nat.le_refl _) (by omega))) (by omega) hrg (by omega) (by omega)) ?_
    rintro _ g105 ⟨l105, ys105, b105, rfl, o105, bl105⟩
    try simp only [hn_push, hn_up] at bl105
    have nn105 := l105.n
    try simp only [hn_push, hn_up] at nn105
    have LL105 : g104.le g105 := H2.le.trans zale l105
    have ln105 := LL105.n
    replace o6 := o6.keep LL105 (bl6.wide (Nat.le_refl _) (by omega))
    replace o48 := o48.keep LL105 (bl48.wide (Nat.le_refl _) (by omega))
    replace row0 := (LL105.2 (hn h .mk) (by omega)).trans row0
    replace row1 := (LL105.2 (hn h .mk + 1) (by omega)).trans row1
    replace rw6 := (LL105.2 (blk6) (by omega)).trans rw6
    replace row3 := (LL105.2 (hn g38 .mk) (by omega)).trans row3
    replace row4 := (LL105.2 (hn g43 .mk) (by omega)).trans row4
    replace row5 := (LL105.2 (hn g48 .mk) (by omega)).trans row5
    replace rowz102 := (LL105.2 (hn g68 .mk) (by omega)).trans rowz102
    obtain ⟨s105_3, s105_4, s105_5, s105_6, s105_8, s105_9, s105_12, s105_13, s105_14, s105_15, s105_16, rfl, ce105⟩ := shEngine o105
    repeat (first | rw [ko] | rw [kr] | simp -dsimp -implicitDefEqProofs only [go_sem, rq1, rq2, ce105, rowz102, hoo])
    refine jz_keep ?_ ?_
    ·simp -dsimp -implicitDefEqProofs only [go_sem, rq1]
    refine ⟨hn g68 .mk, _, _, zsm, zsm, zsm, by repeat (first | exact H2.le.refl _ | apply le_push | refine le_set ?_ zau | refine le_up ?_ (by first | assumption | omega) | refine H2.le.trans ?_ l68 | refine H2.le.trans ?_ l103 | refine H2.le.trans ?_ l104 | refine H2.le.trans ?_ l105), zau, zau, by simp -dsimp -implicitDefEqProofs only [go_sem, hoo] <;> rfl, (o105.frame fun q hq => by have h1 := bl105.2 q hq; (try simp only [H2.set]); repeat (first | rfl | rw [if_neg (by first | omega | (unfold hn at *; omega))])), bl105.wide zau zau, fun hx => by have := bl105.2 _ hx; omega⟩
  ·have ne106 : ((hn h .mk) == (n66)) = false := zne
   have nf106 : ((n66) == (hn h .mk)) = false := zne
   have ne107 : ((hn h .mk + 1) == (n66)) = false := zne
   have nf107 : ((n66) == (hn h .mk + 1)) = false := zne
   have ne108 : ((blk6) == (n66)) = false := zne
   have nf108 : ((n66) == (blk6)) = false := zne
   have ne109 : ((hn g38 .mk) == (n66)) = false := zne
   have nf109 : ((n66) == (hn g38 .mk)) = false := zne
   have ne110 : ((hn g43 .mk) == (n66)) = false := zne
   have nf110 : ((n66) == (hn g43 .mk)) = false := zne
   have ne111 : ((hn g48 .mk) == (n66)) = false := zne
   have nf111 : ((n66) == (hn g48 .mk)) = false := zne
   repeat (first | rw [ko] | rw [kr] | simp -dsimp -implicitDefEqProofs only [go_sem, rq1, row0, row1, ne106, ne107, hoo])
   refine wz_intro (toEngine_ok (by omega)) ?_
   rintro _ g113 ⟨l113, ys113, b113, rfl, o113, bl113⟩
   try simp only [hn_push, hn_up] at bl113
   have nn113 := l113.n
   try simp only [hn_push, hn_up] at nn113
   have LL113 : g65.le g113 := H2.le.trans zale l113
   have ln113 := LL113.n
   replace o6 := o6.keep LL113 (bl6.wide (Nat.le_refl _) (by omega))
   replace o48 := o48.keep LL113 (bl48.wide (Nat.le_refl _) (by omega))
   replace row0 := (LL113.2 (hn h .mk) (by omega)).trans row0
   replace row1 := (LL113.2 (hn h .mk + 1) (by omega)).trans row1
   replace rw6 := (LL113.2 (blk6) (by omega)).trans rw6
   replace row3 := (LL113.2 (hn g38 .mk) (by omega)).trans row3
   replace row4 := (LL113.2 (hn g43 .mk) (by omega)).trans row4
   replace row5 := (LL113.2 (hn g48 .mk) (by omega)).trans row5
   have rowz112 := l113.2 (n66) zau
   simp -dsimp -implicitDefEqProofs only [go_sem, hoo] at rowz112
   obtain ⟨s113_3, s113_4, s113_5, s113_6, s113_8, s113_9, s113_12, s113_13, s113_14, s113_15, s113_16, rfl, ce113⟩ := shEngine o113
   rw [kq]
   refine ⟨by simp -dsimp -implicitDefEqProofs only [go_sem, rq1, row1, hoo], ?_⟩
   repeat (first | rw [ko] | rw [kr] | simp -dsimp -implicitDefEqProofs only [go_sem, rq1, hoo])
   refine wz_intro (toIntS_new (by omega)) ?_
   rintro s114 g114 ⟨l114, b114, o114, bl114⟩
   try simp only [hn_push, hn_up] at bl114
   have nn114 := l114.n
   try simp only [hn_push, hn_up] at nn114
   have LL114 : g113.le g114 := H2.le.trans zale l114
   have ln114 := LL114.n
   replace o6 := o6.keep LL114 (bl6.wide (Nat.le_refl _) (by omega))
   replace o48 := o48.keep LL114 (bl48.wide (Nat.le_refl _) (by omega))
   replace o113 := o113.keep LL114 (bl113.wide (Nat.le_refl _) (by omega))
   replace row0 := (LL114.2 (hn h .mk) (by omega)).trans row0
   replace row1 := (LL114.2 (hn h .mk + 1) (by omega)).trans row1
   replace rw6 := (LL114.2 (blk6) (by omega)).trans rw6
   replace row3 := (LL114.2 (hn g38 .mk) (by omega)).trans row3
   replace row4 := (LL114.2 (hn g43 .mk) (by omega)).trans row4
   replace row5 := (LL114.2 (hn g48 .mk) (by omega)).trans row5
   replace rowz112 := (LL114.2 (n66) (by omega)).trans rowz112
   have ce114 := OT.cell o114
   rw [kq]
   refine ⟨by simp -dsimp -implicitDefEqProofs only [go_sem, rq1, row1, hoo], ?_⟩
   repeat (first | rw [ko] | rw [kr] | simp -dsimp -implicitDefEqProofs only [go_sem, rq1, hoo])
   refine wz_intro (toConfig_ok (by omega)) ?_
   rintro _ g115 ⟨l115, ys115, b115, rfl, o115, bl115⟩
   try simp only [hn_push, hn_up] at bl115
   have nn115 := l115.n
   try simp only [hn_push, hn_up] at nn115
   have LL115 : g114.le g115 := H2.le.trans zale l115
   have ln115 := LL115.n
   replace o6 := o6.keep LL115 (bl6.wide (Nat.le_refl _) (by omega))
   replace o48 := o48.keep LL115 (bl48.wide (Nat.le_refl _) (by omega))
   replace o113 := o113.keep LL115 (bl113.wide (Nat.le_refl _) (by omega))
   replace o114 := o114.keep LL115 (bl114.wide (Nat.le_refl _) (by omega))
   replace row0 := (LL115.2 (hn h .mk) (by omega)).trans row0
   replace row1 := (LL115.2 (hn h .mk + 1) (by omega)).trans row1
   replace rw6 := (LL115.2 (blk6) (by omega)).trans rw6
   replace row3 := (LL115.2 (hn g38 .mk) (by omega)).trans row3
   replace row4 := (LL115.2 (hn g43 .mk) (by omega)).trans row4
   replace row5 := (LL115.2 (hn g48 .mk) (by omega)).trans row5
   replace rowz112 := (LL115.2 (n66) (by omega)).trans rowz112
   obtain ⟨s115_3, rfl, ce115⟩ := shConfig o115
   repeat (first | rw [ko] | rw [kr] | simp -dsimp -implicitDefEqProofs only [go_sem, hoo])
   refine wz_intro (implSubmit_tree (o113.keep zale (bl113.wide (Nat.le_refl _) (by omega))) (o114.keep zale (bl114.wide (Nat.le_refl _) (by omega))) (o115.keep zale (bl115.wide (Nat.le_refl _) (by omega))) (by omega) hrg (by omega) (by omega)) ?_
   rintro _ g116 ⟨l116, ys116, b116, rfl, o116, bl116⟩
   try simp only [hn_push, hn_up] at bl116
   have nn116 := l116.n
   try simp only [hn_push, hn_up] at nn116
   have LL116 : g115.le g116 := H2.le.trans zale l116
   have ln116 := LL116.n
   replace o6 := o6.keep LL116 (bl6.wide (Nat.le_refl _) (by omega))
   replace o48 := o48.keep LL116 (bl48.wide (Nat.le_refl _) (by omega))
   replace row0 := (LL116.2 (hn h .mk) (by omega)).trans row0
   replace row1 := (LL116.2 (hn h .mk + 1) (by omega)).trans row1
   replace rw6 := (LL116.2 (blk6) (by omega)).trans rw6
   replace row3 := (LL116.2 (hn g38 .mk) (by omega)).trans row3
   replace row4 := (LL116.2 (hn g43 .mk) (by omega)).trans row4
   replace row5 := (LL116.2 (hn g48 .mk) (by omega)).trans row5
   replace rowz112 := (LL116.2 (n66) (by omega)).trans rowz112
   obtain ⟨s116_3, s116_4, s116_5, s116_6, s116_8, s116_9, s116_12, s116_13, s116_14, s116_15, s116_16, rfl, ce116⟩ := shEngine o116
   repeat (first | rw [ko] | rw [kr] | simp -dsimp -implicitDefEqProofs only [go_sem, rq1, rq2, ce116, rowz112, hoo])
   refine jz_keep ?_ ?_
   ·simp -dsimp -implicitDefEqProofs only [go_sem, rq1]
   refine ⟨n66, _, _, zsm, zsm, zsm, by repeat (first | exact H2.le.refl _ | apply le_push | refine le_set ?_ zau | refine le_up ?_ (by first | assumption | omega) | refine H2.le.trans ?_ l113 | refine H2.le.trans ?_ l114 | refine H2.le.trans ?_ l115 | refine H2.le.trans ?_ l116), zau, zau, by simp -dsimp -implicitDefEqProofs only [go_sem, hoo] <;> rfl, (o116.frame fun q hq => by have h1 := bl116.2 q hq; (try simp only [H2.set]); repeat (first | rfl | rw [if_neg (by first | omega | (unfold hn at *; omega))])), bl116.wide zau zau, fun hx => by have := bl116.2 _ hx; omega⟩
 intro e67 g67 hks67 ⟨blk67, ys67, b67, ep67, es67_21, es67_22, l67, hb67, hc67, rw67, o67, bl67, hnb67⟩
 try simp only [hn_up] at hb67 bl67
 have nn67 := l67.n
 try simp only [hn_up] at nn67
 have LL67 : g65.le g67 := H2.le.trans zale l67
 have ln67 := LL67.n
 replace o6 := o6.keep LL67 (bl6.wide (Nat.le_refl _) (by omega))
 replace o48 := o48.keep LL67 (bl48.wide (Nat.le_refl _) (by omega))
 replace rw6 := (LL67.2 (blk6) (by omega)).trans rw6
 replace row5 := (LL67.2 (hn g48 .mk) (by omega)).trans row5
 simp -dsimp -implicitDefEqProofs only [go_sem, rq1, hoo] at hks67
 obtain ⟨s67_3, s67_4, s67_5, s67_6, s67_8, s67_9, s67_12, s67_13, s67_14, s67_15, s67_16, rfl, ce67⟩ := shEngine o67
 have ne117 : ((hn h .mk) == (blk67)) = false := zne
 have nf117 : ((blk67) == (hn h .mk)) = false := zne
 have ne118 : ((hn h .mk + 1) == (blk67)) = false := zne
 have nf118 : ((blk67) == (hn h .mk + 1)) = false := zne
 have ne119 : ((blk6) == (blk67)) = false := zne
 have nf119 : ((blk67) == (blk6)) = false := zne
 have ne120 : ((hn g38 .mk) == (blk67)) = false := zne
 have nf120 : ((blk67) == (hn g38 .mk)) = false := zne
 have ne121 : ((hn g43 .mk) == (blk67)) = false := zne
 have nf121 : ((blk67) == (hn g43 .mk)) = false := zne
 have ne122 : ((hn g48 .mk) == (blk67)) = false := zne
 have nf122 : ((blk67) == (hn g48 .mk)) = false := zne
 repeat (first | rw [ko] | rw [kr] | simp -dsimp -implicitDefEqProofs only [go_sem, rq1, hks67, ep67, es67_21, es67_22, rw6, rw67, hoo])
 refine pw_intro (eqEngine_tree (o67.keep zale (bl67.wide (Nat.le_refl _) (by omega))) (o6.keep zale (bl6.wide (Nat.le_refl _) (by omega))) hfe) ?_
 rintro _ n123 hn123 rfl
 have hm123 := hn123
 try simp only [hn_push, hn_up] at hm123
 repeat (first | rw [ko] | rw [kr] | simp -dsimp -implicitDefEqProofs only [go_sem, rq1, row5, hoo])
 refine pw_intro (heldEngine_tree (o48.keep zale (bl48.wide (Nat.le_refl _) (by omega))) hd65) ?_
 rintro _ n124 hn124 rfl
 have hm124 := hn124
 try simp only [hn_up] at hm124
 repeat (first | rw [ko] | rw [kr] | simp -dsimp -implicitDefEqProofs only [go_sem, rq1, kq65, hoo])
 rfl
end Go.Bi
end
