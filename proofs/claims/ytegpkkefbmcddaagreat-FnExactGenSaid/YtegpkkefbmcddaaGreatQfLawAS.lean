/- Own lemmas that the theorem of this claim needs: the abstract machine and walks of functions. -/
import Derived.Test.YtegpkkefbmcddaaGreatQfLawAR
set_option linter.unusedSimpArgs false
set_option linter.unusedVariables false
open Nat renaming reduceBEq → sQ1, reduceAdd → sQ2, reduceLeDiff → sQ3, reduceMul → sQ4
open Int renaming reduceLE → sQ5, reduceLT → sQ6, reduceBEq → sQ7
section
set_option maxRecDepth 20000
namespace Go.Bi
open Go.Proofs
open Go.Ai (wrap_i64 wrap_u64 wrap_u8 Heap)
variable {W0 : World} {P : Program}
theorem Xl {m : AM} {ts : List Int} {c : Ac} {s : Int} : (HK m ts c s).length ≤ 24 := by
 unfold HK
 split
 ·rename_i h
  unfold Mr at h
  simp only [Bool.and_eq_true] at h
  have := JP h.1
  have := Pb (m := m) (c := c) (k := c.new.toNat) (ts := ts) (s := s)
  omega
 ·exact Nat.zero_le _
theorem I9 {m : AM} {c : Ac} {ts : List Int} {g : H2} {bs bs' bs2 : List Nat} {ys ys2 : List X} {y : X} (o : Ak g bs ys (Dp m)) (o' : OT g bs' y (.l 1 (ints ts))) (o2 : Ak g bs2 ys2 (Cr c)) (hs : B4 m) (hl : ts.length ≤ 1048576) (hf : Cq c) :
  A7 Tryz.prog W0 40 [.st ys, y, .st ys2] g (fun x g' => g.le g' ∧ ∃ w b, x = .tp [w, .raw (.bool (Mr m ts c))] ∧ OT g' b w (.l 1 (ints (HK m ts c (IntKind.u64.wrap c.seed)))) ∧ Bl (hn g .mk) (hn g' .mk) b) := by
 obtain ⟨F, hF⟩ := o.lent
 obtain ⟨f, hf'⟩ := o'.lent
 obtain ⟨F', hF'⟩ := o2.lent
 refine (Qf (.cons hF (.cons hf' (.cons hF' .nil))) (Rs (F := F) (F' := F') (f := f) hs hl hf.1)).mono ?_
 rintro x g' ⟨h1, b, ⟨v, rfl, o3⟩, bl⟩
 exact ⟨h1, v, b, rfl, o3, bl⟩
theorem OK {m : AM} {c : Ac} {ts : List Int} {g : H2} {bs bs' bs2 : List Nat} {ys ys2 : List X} {y : X} (o : Ak g bs ys (Dp m)) (o' : OT g bs' y (.l 1 (ints ts))) (o2 : Ak g bs2 ys2 (Cr c)) (hs : B4 m) (hl : ts.length ≤ 1048576) (hf : Cq c) :
  A7 Tryz.prog W0 39 [.st ys, y, .st ys2] g (fun x g' => g.le g' ∧ ∃ w b, x = .tp [w, .raw (.bool (Mr m ts c))] ∧ OT g' b w (.l 1 (ints (HK m ts c (IntKind.u64.wrap c.seed)))) ∧ Bl (hn g .mk) (hn g' .mk) b) := by
 obtain ⟨F, hF⟩ := o.lent
 obtain ⟨f, hf'⟩ := o'.lent
 obtain ⟨F', hF'⟩ := o2.lent
 refine (Qf (.cons hF (.cons hf' (.cons hF' .nil))) (SG (F := F) (F' := F') (f := f) hs hl hf.1)).mono ?_
 rintro x g' ⟨h1, b, ⟨v, rfl, o3⟩, bl⟩
 exact ⟨h1, v, b, rfl, o3, bl⟩
end Go.Bi
end
section
set_option maxRecDepth 20000
set_option maxHeartbeats 8000000
namespace Go.Bi
open Go.Proofs
open Go.Ai (wrap_i64 wrap_u64 wrap_u8)
variable {W0 : World}
theorem Mv {F0 : Nat → AQ} {m : AM} {f1 : AQ} {p : List Int} {F2 : Nat → AQ} {c : Ac} {h : H2} (hf0 : Ei m) (hf1 : p.length ≤ 9223372036854775807) (hf2 : Cq c)  : A7 Tryz.prog W0 8 [.st (BH F0 m), .sl f1 1 (ints p), .st (BR F2 c)] h (fun v h' => v = .raw (.bool true)) := by
 refine AH [[0, 1, 2], [1, 3, 5], [], [1, 3, 5], [1, 3, 5, 7], [1, 3, 5, 7], [], [1, 3, 5, 7], [1, 3, 5, 7], [], [1, 3, 5], [1, 3, 5, 8, 9], [1, 3, 5, 8, 9, 10], [1, 3, 5, 8, 9, 10, 11], [1, 3, 5, 8, 9, 10, 11, 12], [1, 3, 5, 8, 9, 10, 11, 12, 13, 14], [], [1, 3, 5, 8, 9, 10, 11, 12, 13, 14], [], [1, 3, 5, 8, 9, 10, 11, 12, 13, 14], [], [1, 3, 5, 8, 9, 10, 11, 12, 13, 14], [], [1, 3, 5, 8, 9, 10, 11, 12, 13, 14], [1, 3, 5, 8, 9, 10, 11, 12, 13, 14, 15], [1, 3, 5, 8, 9, 11, 12, 13, 14, 15], [1, 3, 5, 8, 9, 12, 13, 14, 15], [1, 3, 5, 8, 9, 13, 14, 15], [], [1, 3, 5, 8, 9, 13], [1, 3, 5, 8, 9, 13, 16], [1, 3, 5, 8, 9, 13, 16], [1, 3, 5, 8, 9, 13, 16, 17], [1, 3, 5, 8, 9, 13, 16, 17], [], [1, 3, 5, 8, 9, 13, 16, 17], [], [1, 3, 5, 8, 9, 13, 16], [8, 9, 13, 16, 18, 19], [], [13, 16], [13, 16, 17], [16, 17], [], [16, 17], [], []] Tryz.func8 rfl (rs := [.tmp 6]) rfl rfl ?_
 intro wf
 refine zr ?_
 refine AN (fun q1 => ?_) (fun q1 => ?_)
 ·refine zr ?_
  rfl
 refine zh ?_
 refine AD (TC hf0 ⟨by omega, by omega⟩) ?_
 rintro _ n2 hn2 ⟨k2, rfl, hk2⟩
 have hm2 := hn2
 try simp only [AB] at hm2
 refine zh ?_
 refine AN (fun q3 => ?_) (fun q3 => ?_)
 ·refine zr ?_
  rfl
 refine zh ?_
 refine AD (QC hf2 ⟨by omega, by omega⟩) ?_
 rintro _ n4 hn4 ⟨k4, rfl, hk4⟩
 have hm4 := hn4
 try simp only [AF] at hm4
 refine zh ?_
 refine AN (fun q5 => ?_) (fun q5 => ?_)
 ·refine zr ?_
  rfl
 have hsz_m : DB m ≤ 1048576 := by omega
 have hsz_c : Ft c ≤ 1048576 := by omega
 have hsm := Qq hsz_m
 have hct_c : Eb c ≤ 1048576 := by have h1 : Ft c = c.stops.length + OX c.stops := rfl; show c.stops.length ≤ _; omega
 have hgl := Xl (m := m) (ts := p) (c := c) (s := IntKind.u64.wrap c.seed)
 refine zh ?_
 refine AO [(0, []), (2, []), (4, []), (1, [4]), (3, [4]), (5, []), (6, []), (7, []), (8, []), (9, []), (10, []), (11, [])] (by kernel_rfl) ?_
 refine zh ?_
 refine AA (GP (by omega)) ?_
 rintro _ g6 ⟨l6, ys6, b6, rfl, o6, bl6⟩
 try simp only [AF] at bl6
 have nn6 := l6.n
 try simp only [AF] at nn6
 have LL6 : h.le g6 := H2.le.trans AZ l6
 have ln6 := LL6.n
 have row0 := l6.2 (hn h .mk) SQ
 simp -dsimp -implicitDefEqProofs only [go_sem, Av] at row0
 have row1 := l6.2 (hn h .mk + 1) SQ
 simp -dsimp -implicitDefEqProofs only [go_sem, Av] at row1
 obtain ⟨s6_3, s6_4, s6_5, s6_6, s6_8, s6_9, s6_12, s6_13, rfl, ce6⟩ := K2 o6
 rw [kq]
 refine ⟨by simp -dsimp -implicitDefEqProofs only [go_sem, sQ1, row1, Av], ?_⟩
 refine zh ?_
 refine AA (Cf (by omega)) ?_
 rintro s7 g7 ⟨l7, b7, o7, bl7⟩
 try simp only [AB, AF] at bl7
 have nn7 := l7.n
 try simp only [AB, AF] at nn7
 have LL7 : g6.le g7 := H2.le.trans AZ l7
 have ln7 := LL7.n
 replace o6 := o6.keep LL7 (bl6.wide (Nat.le_refl _) (by omega))
 replace row0 := (LL7.2 (hn h .mk) (by omega)).trans row0
 replace row1 := (LL7.2 (hn h .mk + 1) (by omega)).trans row1
 have ce7 := OT.cell o7
 rw [kq]
 refine ⟨by simp -dsimp -implicitDefEqProofs only [go_sem, sQ1, row1, Av], ?_⟩
 refine zh ?_
 refine AA (FT (by omega)) ?_
 rintro _ g8 ⟨l8, ys8, b8, rfl, o8, bl8⟩
 try simp only [AB, AF] at bl8
 have nn8 := l8.n
 try simp only [AB, AF] at nn8
 have LL8 : g7.le g8 := H2.le.trans AZ l8
 have ln8 := LL8.n
 replace o6 := o6.keep LL8 (bl6.wide (Nat.le_refl _) (by omega))
 replace o7 := o7.keep LL8 (bl7.wide (Nat.le_refl _) (by omega))
 replace row0 := (LL8.2 (hn h .mk) (by omega)).trans row0
 replace row1 := (LL8.2 (hn h .mk + 1) (by omega)).trans row1
 obtain ⟨s8_3, rfl, ce8⟩ := JA o8
 refine zh ?_
 refine AA (OK (o6.keep AZ (bl6.wide (Nat.le_refl _) (by omega))) (o7.keep AZ (bl7.wide (Nat.le_refl _) (by omega))) (o8.keep AZ (bl8.wide (Nat.le_refl _) (by omega))) hsm (by omega) hf2) ?_
 rintro _ g9 ⟨l9, s9, b9, rfl, o9, bl9⟩
 try simp only [AB, AF] at bl9
 have nn9 := l9.n
 try simp only [AB, AF] at nn9
 have LL9 : g8.le g9 := H2.le.trans AZ l9
 have ln9 := LL9.n
 replace row0 := (LL9.2 (hn h .mk) (by omega)).trans row0
 replace row1 := (LL9.2 (hn h .mk + 1) (by omega)).trans row1
 have ce9 := OT.cell o9
 refine DC row0 ?_
 refine AA (GP (by omega)) ?_
 rintro _ g10 ⟨l10, ys10, b10, rfl, o10, bl10⟩
 try simp only [AB, AF] at bl10
 have nn10 := l10.n
 try simp only [AB, AF] at nn10
 have LL10 : g9.le g10 := H2.le.trans AZ l10
 have ln10 := LL10.n
 replace o9 := o9.keep LL10 (bl9.wide (Nat.le_refl _) (by omega))
 replace row0 := (LL10.2 (hn h .mk) (by omega)).trans row0
 replace row1 := (LL10.2 (hn h .mk + 1) (by omega)).trans row1
 obtain ⟨s10_3, s10_4, s10_5, s10_6, s10_8, s10_9, s10_12, s10_13, rfl, ce10⟩ := K2 o10
 have ne11 : ((hn h .mk) == (hn g10 .mk)) = false := Cw
 have nf11 : ((hn g10 .mk) == (hn h .mk)) = false := Cw
 have ne12 : ((hn h .mk + 1) == (hn g10 .mk)) = false := Cw
 have nf12 : ((hn g10 .mk) == (hn h .mk + 1)) = false := Cw
 refine DC ce10 ?_
 refine AA (Cf (by omega)) ?_
 rintro s13 g13 ⟨l13, b13, o13, bl13⟩
 try simp only [AB] at bl13
 have nn13 := l13.n
 try simp only [AB] at nn13
 have LL13 : g10.le g13 := H2.le.trans AZ l13
 have ln13 := LL13.n
 replace o9 := o9.keep LL13 (bl9.wide (Nat.le_refl _) (by omega))
 replace o10 := o10.keep LL13 (bl10.wide (Nat.le_refl _) (by omega))
 replace row0 := (LL13.2 (hn h .mk) (by omega)).trans row0
 replace row1 := (LL13.2 (hn h .mk + 1) (by omega)).trans row1
 have row2 := l13.2 (hn g10 .mk) SQ
 simp -dsimp -implicitDefEqProofs only [go_sem, Av] at row2
 have ce13 := OT.cell o13
 refine DC row1 ?_
 refine AA (FT (by omega)) ?_
 rintro _ g14 ⟨l14, ys14, b14, rfl, o14, bl14⟩
 try simp only [AB, AF] at bl14
 have nn14 := l14.n
 try simp only [AB, AF] at nn14
 have LL14 : g13.le g14 := H2.le.trans AZ l14
 have ln14 := LL14.n
 replace o9 := o9.keep LL14 (bl9.wide (Nat.le_refl _) (by omega))
 replace o10 := o10.keep LL14 (bl10.wide (Nat.le_refl _) (by omega))
 replace o13 := o13.keep LL14 (bl13.wide (Nat.le_refl _) (by omega))
 replace row0 := (LL14.2 (hn h .mk) (by omega)).trans row0
 replace row1 := (LL14.2 (hn h .mk + 1) (by omega)).trans row1
 replace row2 := (LL14.2 (hn g10 .mk) (by omega)).trans row2
 obtain ⟨s14_3, rfl, ce14⟩ := JA o14
 have ne15 : ((hn h .mk) == (hn g14 .mk)) = false := Cw
 have nf15 : ((hn g14 .mk) == (hn h .mk)) = false := Cw
 have ne16 : ((hn h .mk + 1) == (hn g14 .mk)) = false := Cw
 have nf16 : ((hn g14 .mk) == (hn h .mk + 1)) = false := Cw
 have ne17 : ((hn g10 .mk) == (hn g14 .mk)) = false := Cw
 have nf17 : ((hn g14 .mk) == (hn g10 .mk)) = false := Cw
 refine bW ce14 row2 ne17 ?_
 refine AA (I9 (o10.keep AZ (bl10.wide (Nat.le_refl _) (by omega))) (o13.keep AZ (bl13.wide (Nat.le_refl _) (by omega))) (o14.keep AZ (bl14.wide (Nat.le_refl _) (by omega))) hsm (by omega) hf2) ?_
 rintro _ g18 ⟨l18, s18, b18, rfl, o18, bl18⟩
 try simp only [AB] at bl18
 have nn18 := l18.n
 try simp only [AB] at nn18
 have LL18 : g14.le g18 := H2.le.trans AZ l18
 have ln18 := LL18.n
 replace o9 := o9.keep LL18 (bl9.wide (Nat.le_refl _) (by omega))
 replace o10 := o10.keep LL18 (bl10.wide (Nat.le_refl _) (by omega))
 replace o13 := o13.keep LL18 (bl13.wide (Nat.le_refl _) (by omega))
 replace o14 := o14.keep LL18 (bl14.wide (Nat.le_refl _) (by omega))
 replace row0 := (LL18.2 (hn h .mk) (by omega)).trans row0
 replace row1 := (LL18.2 (hn h .mk + 1) (by omega)).trans row1
 replace row2 := (LL18.2 (hn g10 .mk) (by omega)).trans row2
 have row3 := l18.2 (hn g14 .mk) SQ
 simp -dsimp -implicitDefEqProofs only [go_sem, Av] at row3
 have ce18 := OT.cell o18
 refine zh ?_
 refine AD (FG (o18.keep AZ (bl18.wide (Nat.le_refl _) (by omega))) (o9.keep AZ (bl9.wide (Nat.le_refl _) (by omega))) (by omega)) ?_
 rintro _ n19 hn19 rfl
 have hm19 := hn19
 try simp only [AB, AF] at hm19
 refine zh ?_
 refine AO [(0, []), (1, []), (2, [0]), (3, []), (4, [])] (by kernel_rfl) ?_
 refine LM row0 row2 ?_
 refine AA (GP (by omega)) ?_
 rintro _ g20 ⟨l20, ys20, b20, rfl, o20, bl20⟩
 try simp only [AF] at bl20
 have nn20 := l20.n
 try simp only [AF] at nn20
 have LL20 : g18.le g20 := H2.le.trans AZ l20
 have ln20 := LL20.n
 replace o9 := o9.keep LL20 (bl9.wide (Nat.le_refl _) (by omega))
 replace o10 := o10.keep LL20 (bl10.wide (Nat.le_refl _) (by omega))
 replace o13 := o13.keep LL20 (bl13.wide (Nat.le_refl _) (by omega))
 replace o14 := o14.keep LL20 (bl14.wide (Nat.le_refl _) (by omega))
 replace o18 := o18.keep LL20 (bl18.wide (Nat.le_refl _) (by omega))
 replace row0 := (LL20.2 (hn h .mk) (by omega)).trans row0
 replace row1 := (LL20.2 (hn h .mk + 1) (by omega)).trans row1
 replace row2 := (LL20.2 (hn g10 .mk) (by omega)).trans row2
 replace row3 := (LL20.2 (hn g14 .mk) (by omega)).trans row3
 obtain ⟨s20_3, s20_4, s20_5, s20_6, s20_8, s20_9, s20_12, s20_13, rfl, ce20⟩ := K2 o20
 rw [kq]
 refine ⟨by simp -dsimp -implicitDefEqProofs only [go_sem, sQ1, row2, Av], ?_⟩
 refine zh ?_
 refine AD (OM (o10.keep AZ (bl10.wide (Nat.le_refl _) (by omega))) (o20.keep AZ (bl20.wide (Nat.le_refl _) (by omega))) hf0) ?_
 rintro _ n21 hn21 rfl
 have hm21 := hn21
 try simp only [AB, AF] at hm21
 refine zh ?_
 refine AA (Cf (by omega)) ?_
 rintro s22 g22 ⟨l22, b22, o22, bl22⟩
 try simp only [AF] at bl22
 have nn22 := l22.n
 try simp only [AF] at nn22
 have LL22 : g20.le g22 := H2.le.trans AZ l22
 have ln22 := LL22.n
 replace o9 := o9.keep LL22 (bl9.wide (Nat.le_refl _) (by omega))
 replace o10 := o10.keep LL22 (bl10.wide (Nat.le_refl _) (by omega))
 replace o13 := o13.keep LL22 (bl13.wide (Nat.le_refl _) (by omega))
 replace o14 := o14.keep LL22 (bl14.wide (Nat.le_refl _) (by omega))
 replace o18 := o18.keep LL22 (bl18.wide (Nat.le_refl _) (by omega))
 replace row0 := (LL22.2 (hn h .mk) (by omega)).trans row0
 replace row1 := (LL22.2 (hn h .mk + 1) (by omega)).trans row1
 replace row2 := (LL22.2 (hn g10 .mk) (by omega)).trans row2
 replace row3 := (LL22.2 (hn g14 .mk) (by omega)).trans row3
 have ce22 := OT.cell o22
 refine zh ?_
 refine AD (FG (o13.keep AZ (bl13.wide (Nat.le_refl _) (by omega))) (o22.keep AZ (bl22.wide (Nat.le_refl _) (by omega))) hf1) ?_
 rintro _ n23 hn23 rfl
 have hm23 := hn23
 try simp only [AB, AF] at hm23
 refine zh ?_
 refine AO [(0, []), (1, []), (2, [0]), (3, []), (4, [])] (by kernel_rfl) ?_
 refine LM row1 row3 ?_
 refine AA (FT (by omega)) ?_
 rintro _ g24 ⟨l24, ys24, b24, rfl, o24, bl24⟩
 try simp only [AF] at bl24
 have nn24 := l24.n
 try simp only [AF] at nn24
 have LL24 : g22.le g24 := H2.le.trans AZ l24
 have ln24 := LL24.n
 replace o9 := o9.keep LL24 (bl9.wide (Nat.le_refl _) (by omega))
 replace o10 := o10.keep LL24 (bl10.wide (Nat.le_refl _) (by omega))
 replace o13 := o13.keep LL24 (bl13.wide (Nat.le_refl _) (by omega))
 replace o14 := o14.keep LL24 (bl14.wide (Nat.le_refl _) (by omega))
 replace o18 := o18.keep LL24 (bl18.wide (Nat.le_refl _) (by omega))
 replace row0 := (LL24.2 (hn h .mk) (by omega)).trans row0
 replace row1 := (LL24.2 (hn h .mk + 1) (by omega)).trans row1
 replace row2 := (LL24.2 (hn g10 .mk) (by omega)).trans row2
 replace row3 := (LL24.2 (hn g14 .mk) (by omega)).trans row3
 obtain ⟨s24_3, rfl, ce24⟩ := JA o24
 rw [kq]
 refine ⟨by simp -dsimp -implicitDefEqProofs only [go_sem, sQ1, row3, Av], ?_⟩
 refine zh ?_
 refine AD (M4 (o14.keep AZ (bl14.wide (Nat.le_refl _) (by omega))) (o24.keep AZ (bl24.wide (Nat.le_refl _) (by omega))) hf2) ?_
 rintro _ n25 hn25 rfl
 have hm25 := hn25
 try simp only [AB, AF] at hm25
 refine DC row2 ?_
 refine AA (Kl (o10.keep AZ (bl10.wide (Nat.le_refl _) (by omega))) (bl10.wide (Nat.le_refl _) SQ) ⟨by omega, by omega⟩) ?_
 rintro _ g26 ⟨k26, z26, rfl, lo26, hi26, o10', hd26, nn26, fr26⟩
 try simp only [AF] at nn26
 have FR26 : ∀ {b : Nat}, b < hn g24 .mk → b ∉ b10 → g26.get b = g24.get b := fun {b} h1 h2 => (show g26.get b = _ from fr26 b SQ h2).trans (by exact gW)
 replace o9 := o9.frame fun b hb => FR26 (by have := (bl9.2 b hb).2; omega) (fun hx => by have := bl9.2 b hb; have := bl10.2 b hx; omega)
 replace o13 := o13.frame fun b hb => FR26 (by have := (bl13.2 b hb).2; omega) (fun hx => by have := bl13.2 b hb; have := bl10.2 b hx; omega)
 replace o14 := o14.frame fun b hb => FR26 (by have := (bl14.2 b hb).2; omega) (fun hx => by have := bl14.2 b hb; have := bl10.2 b hx; omega)
 replace o18 := o18.frame fun b hb => FR26 (by have := (bl18.2 b hb).2; omega) (fun hx => by have := bl18.2 b hb; have := bl10.2 b hx; omega)
 replace o10 := o10'
 replace row0 := (show hg g26 (hn h .mk) .mk = _ from FR26 (by omega) (fun hx => by have := bl10.2 _ hx; omega)).trans row0
 replace row1 := (show hg g26 (hn h .mk + 1) .mk = _ from FR26 (by omega) (fun hx => by have := bl10.2 _ hx; omega)).trans row1
 replace row3 := (show hg g26 (hn g14 .mk) .mk = _ from FR26 (by omega) (fun hx => by have := bl10.2 _ hx; omega)).trans row3
 have kp26 : 0 ≤ k26 := by omega
 have kq26 : ¬ k26 < 0 := by omega
 refine zh ?_
 refine AA (CT (o13.keep AZ (bl13.wide (Nat.le_refl _) (by omega))) (bl13.wide (Nat.le_refl _) SQ) ⟨by omega, by omega⟩) ?_
 rintro _ g27 ⟨k27, z27, rfl, lo27, hi27, o13', hd27, nn27, fr27⟩
 try simp only [AB, AF] at nn27
 have FR27 : ∀ {b : Nat}, b < hn g26 .mk → b ∉ b13 → g27.get b = g26.get b := fun {b} h1 h2 => (show g27.get b = _ from fr27 b SQ h2).trans (by exact gW)
 replace o9 := o9.frame fun b hb => FR27 (by have := (bl9.2 b hb).2; omega) (fun hx => by have := bl9.2 b hb; have := bl13.2 b hx; omega)
 replace o14 := o14.frame fun b hb => FR27 (by have := (bl14.2 b hb).2; omega) (fun hx => by have := bl14.2 b hb; have := bl13.2 b hx; omega)
 replace o18 := o18.frame fun b hb => FR27 (by have := (bl18.2 b hb).2; omega) (fun hx => by have := bl18.2 b hb; have := bl13.2 b hx; omega)
 replace o13 := o13'
 replace row0 := (show hg g27 (hn h .mk) .mk = _ from FR27 (by omega) (fun hx => by have := bl13.2 _ hx; omega)).trans row0
 replace row1 := (show hg g27 (hn h .mk + 1) .mk = _ from FR27 (by omega) (fun hx => by have := bl13.2 _ hx; omega)).trans row1
 replace row3 := (show hg g27 (hn g14 .mk) .mk = _ from FR27 (by omega) (fun hx => by have := bl13.2 _ hx; omega)).trans row3
 have kp27 : 0 ≤ k27 := by omega
 have kq27 : ¬ k27 < 0 := by omega
 refine DC row3 ?_
 refine AA (J7 (o14.keep AZ (bl14.wide (Nat.le_refl _) (by omega))) (bl14.wide (Nat.le_refl _) SQ) ⟨by omega, by omega⟩) ?_
 rintro _ g28 ⟨k28, z28, rfl, lo28, hi28, o14', nn28, fr28⟩
 try simp only [AB, AF] at nn28
 have FR28 : ∀ {b : Nat}, b < hn g27 .mk → b ∉ b14 → g28.get b = g27.get b := fun {b} h1 h2 => (show g28.get b = _ from fr28 b SQ h2).trans (by exact gW)
 replace o9 := o9.frame fun b hb => FR28 (by have := (bl9.2 b hb).2; omega) (fun hx => by have := bl9.2 b hb; have := bl14.2 b hx; omega)
 replace o18 := o18.frame fun b hb => FR28 (by have := (bl18.2 b hb).2; omega) (fun hx => by have := bl18.2 b hb; have := bl14.2 b hx; omega)
 replace o14 := o14'
 replace row0 := (show hg g28 (hn h .mk) .mk = _ from FR28 (by omega) (fun hx => by have := bl14.2 _ hx; omega)).trans row0
 replace row1 := (show hg g28 (hn h .mk + 1) .mk = _ from FR28 (by omega) (fun hx => by have := bl14.2 _ hx; omega)).trans row1
 have kp28 : 0 ≤ k28 := by omega
 have kq28 : ¬ k28 < 0 := by omega
 refine DC kq28 ?_
 refine AD (FG (o18.keep AZ (bl18.wide (Nat.le_refl _) (by omega))) (o9.keep AZ (bl9.wide (Nat.le_refl _) (by omega))) (by omega)) ?_
 rintro _ n29 hn29 rfl
 have hm29 := hn29
 try simp only [AB, AF] at hm29
 refine zh ?_
 refine AA (CT (o18.keep AZ (bl18.wide (Nat.le_refl _) (by omega))) (bl18.wide (Nat.le_refl _) SQ) ⟨by omega, by omega⟩) ?_
 rintro _ g30 ⟨k30, z30, rfl, lo30, hi30, o18', hd30, nn30, fr30⟩
 try simp only [AF] at nn30
 have FR30 : ∀ {b : Nat}, b < hn g28 .mk → b ∉ b18 → g30.get b = g28.get b := fun {b} h1 h2 => (show g30.get b = _ from fr30 b SQ h2).trans (by exact gW)
 replace o9 := o9.frame fun b hb => FR30 (by have := (bl9.2 b hb).2; omega) (fun hx => by have := bl9.2 b hb; have := bl18.2 b hx; omega)
 replace o18 := o18'
 replace row0 := (show hg g30 (hn h .mk) .mk = _ from FR30 (by omega) (fun hx => by have := bl18.2 _ hx; omega)).trans row0
 replace row1 := (show hg g30 (hn h .mk + 1) .mk = _ from FR30 (by omega) (fun hx => by have := bl18.2 _ hx; omega)).trans row1
 have kp30 : 0 ≤ k30 := by omega
 have kq30 : ¬ k30 < 0 := by omega
 refine zh ?_
 refine AD (IG (o18.keep AZ (bl18.wide (Nat.le_refl _) (by omega))) hd30) ?_
 rintro _ n31 hn31 rfl
 have hm31 := hn31
 try simp only [AB, AF] at hm31
 refine DC kq30 ?_
 refine AO [(0, []), (2, []), (4, []), (1, [4]), (3, [4]), (5, []), (6, []), (7, []), (8, []), (9, []), (10, []), (11, [])] (by kernel_rfl) ?_
 refine LM row0 row1 ?_
 refine AA (GP (by omega)) ?_
 rintro _ g32 ⟨l32, ys32, b32, rfl, o32, bl32⟩
 try simp only [AF] at bl32
 have nn32 := l32.n
 try simp only [AF] at nn32
 have LL32 : g30.le g32 := H2.le.trans AZ l32
 have ln32 := LL32.n
 replace o9 := o9.keep LL32 (bl9.wide (Nat.le_refl _) (by omega))
 replace o18 := o18.keep LL32 (bl18.wide (Nat.le_refl _) (by omega))
 replace row0 := (LL32.2 (hn h .mk) (by omega)).trans row0
 replace row1 := (LL32.2 (hn h .mk + 1) (by omega)).trans row1
 obtain ⟨s32_3, s32_4, s32_5, s32_6, s32_8, s32_9, s32_12, s32_13, rfl, ce32⟩ := K2 o32
 rw [kq]
 refine ⟨by simp -dsimp -implicitDefEqProofs only [go_sem, sQ1, row1, Av], ?_⟩
 refine zh ?_
 refine AA (Cf (by omega)) ?_
 rintro s33 g33 ⟨l33, b33, o33, bl33⟩
 try simp only [AB, AF] at bl33
 have nn33 := l33.n
 try simp only [AB, AF] at nn33
 have LL33 : g32.le g33 := H2.le.trans AZ l33
 have ln33 := LL33.n
 replace o9 := o9.keep LL33 (bl9.wide (Nat.le_refl _) (by omega))
 replace o18 := o18.keep LL33 (bl18.wide (Nat.le_refl _) (by omega))
 replace o32 := o32.keep LL33 (bl32.wide (Nat.le_refl _) (by omega))
 replace row0 := (LL33.2 (hn h .mk) (by omega)).trans row0
 replace row1 := (LL33.2 (hn h .mk + 1) (by omega)).trans row1
 have ce33 := OT.cell o33
 rw [kq]
 refine ⟨by simp -dsimp -implicitDefEqProofs only [go_sem, sQ1, row1, Av], ?_⟩
 refine zh ?_
 refine AA (FT (by omega)) ?_
 rintro _ g34 ⟨l34, ys34, b34, rfl, o34, bl34⟩
 try simp only [AB, AF] at bl34
 have nn34 := l34.n
 try simp only [AB, AF] at nn34
 have LL34 : g33.le g34 := H2.le.trans AZ l34
 have ln34 := LL34.n
 replace o9 := o9.keep LL34 (bl9.wide (Nat.le_refl _) (by omega))
 replace o18 := o18.keep LL34 (bl18.wide (Nat.le_refl _) (by omega))
 replace o32 := o32.keep LL34 (bl32.wide (Nat.le_refl _) (by omega))
 replace o33 := o33.keep LL34 (bl33.wide (Nat.le_refl _) (by omega))
 obtain ⟨s34_3, rfl, ce34⟩ := JA o34
 refine zh ?_
 refine AA (I9 (o32.keep AZ (bl32.wide (Nat.le_refl _) (by omega))) (o33.keep AZ (bl33.wide (Nat.le_refl _) (by omega))) (o34.keep AZ (bl34.wide (Nat.le_refl _) (by omega))) hsm (by omega) hf2) ?_
 rintro _ g35 ⟨l35, s35, b35, rfl, o35, bl35⟩
 try simp only [AB, AF] at bl35
 have nn35 := l35.n
 try simp only [AB, AF] at nn35
 have LL35 : g34.le g35 := H2.le.trans AZ l35
 have ln35 := LL35.n
 replace o9 := o9.keep LL35 (bl9.wide (Nat.le_refl _) (by omega))
 replace o18 := o18.keep LL35 (bl18.wide (Nat.le_refl _) (by omega))
 have ce35 := OT.cell o35
 refine zh ?_
 refine AD (FG (o35.keep AZ (bl35.wide (Nat.le_refl _) (by omega))) (o9.keep AZ (bl9.wide (Nat.le_refl _) (by omega))) (by omega)) ?_
 rintro _ n36 hn36 rfl
 have hm36 := hn36
 try simp only [AB, AF] at hm36
 refine zh ?_
 refine AD (IG (o18.keep AZ (bl18.wide (Nat.le_refl _) (by omega))) hd30) ?_
 rintro _ n37 hn37 rfl
 have hm37 := hn37
 try simp only [AF] at hm37
 refine DC kq30 ?_
 rfl
end Go.Bi
end
