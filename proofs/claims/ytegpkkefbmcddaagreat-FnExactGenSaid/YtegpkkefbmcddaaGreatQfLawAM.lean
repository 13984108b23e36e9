/- Own lemmas that the theorem of this claim needs: the abstract machine and walks of functions. -/
import Derived.Test.YtegpkkefbmcddaaGreatQfLawAL
set_option linter.unusedSimpArgs false
set_option linter.unusedVariables false
open Nat renaming reduceBEq → sQ1, reduceAdd → sQ2, reduceLeDiff → sQ3, reduceMul → sQ4
open Int renaming reduceLE → sQ5, reduceLT → sQ6, reduceBEq → sQ7
section
set_option maxRecDepth 20000
namespace Go.Bi
open Go.Proofs
open Go.Ai (wrap_i64 wrap_u64 wrap_u8 Heap)
variable {W0 : World} {P : Program}
set_option maxHeartbeats 4000000
abbrev MI (P : Program) (W0 : World) (f : FuncId) (xs : List X) (g : H2) (p : Option Nat) (r s : Int) (zs : List Int) : Prop := A7 P W0 f xs g fun y g' => AV p g g' ∧ Mt p g' r s ∧ ∃ v, y = .tp [v, .raw (.bool true)] ∧ Al (hn g .mk) g' v zs
theorem MI.pm {f : FuncId} {xs : List X} {g : H2} {p : Option Nat} {r0 s0 r s : Int} {zs : List Int} (m : Mt p g r0 s0) (c : MI P W0 f xs g p r s zs) : PM P W0 f xs g p r s fun y => (∃ f, y = .tp [.sl f 1 (ints zs), .raw (.bool true)]) ∧ Bu (fun b => hn g .mk ≤ b) y := by
 refine (PM.of (q := fun b => hn g .mk ≤ b) (Q := fun y => ∃ f, y = .tp [.sl f 1 (ints zs), .raw (.bool true)]) m (c.mono ?_)).mono fun y ⟨h1, h2⟩ => ⟨h1, h2.imp fun b hb => hb.elim id id⟩
 rintro x g' ⟨le, mt, v, rfl, ow⟩
 obtain ⟨f, hf⟩ := ow.fz (p := fun b => hn g .mk ≤ b) (q := fun b => hn g .mk ≤ b) fun _ h => h
 exact ⟨le, mt, _, Z4 hf .raw, f, rfl⟩
theorem AV.setb {g g' : H2} {b : Nat} {k : OB} (o : AV (some b) g g') : AV (some b) g (g'.set b k) := ⟨o.1, fun d h1 h2 => by rw [BA, show (d == b) = false by simp at h2 ⊢; omega]; exact o.2 d h1 h2⟩
theorem Mt.setb {g : H2} {b : Nat} {r s : Int} (h : b < hn g .mk) : Mt (some b) (g.set b (E7 r s)) r s := fun b' e => by
 cases e
 exact ⟨h, by rw [BA, show (b == b) = true by simp]; rfl⟩
theorem Z6 {t : Nat} {a : Option Addr} (h : Go.Ai.cls? P t = some .ptr) : IC (Go.Ai.binV P .neq t (.pointer a) (.pointer none)) = some (.raw (.bool (!a.isNone))) := by
 simp only [IC, Go.Ai.binV, Go.Ai.eqV, h]
 cases a <;> rfl
attribute [go_sem] Z6
theorem O1 {a : AR} {x : List Int} (ha : C3 a = true) (hx : Ay 127 x) : Ay 10000000 (Az a x) := Bz (JU ha hx) (by omega)
theorem Fq {F F' : Nat → AQ} {m : AM} {p : Option Nat} {r s : Int} {a : AR} {f : AQ} {x : List Int} {g : H2} (mt : Mt p g r s) (ha : C3 a = true) (h0 : 0 < a.rows.length) (hl : (x.length : Int) = a.width) (hx : Ay 127 x) : MI Tryz.prog W0 183 [.st (Gx F m (DS p)), .st (BV F' a), .sl f 1 (ints x)] g p (Au r (Az a x)) s (Ad a x) := by
 have hrl := (HL ha).2.1
 cases p with
 | none =>
  refine AH [[0, 1, 2], [2, 3, 4], [3, 4, 8, 9], [], [3, 4, 8], [3, 4, 8], [4, 8]] Tryz.func183 rfl (rs := [.tmp 6, .tmp 7]) rfl rfl ?_
  intro wf
  have hne : (hn g .mk == hn g .mk + 1) = false := by simp
  repeat (first | rw [ko] | rw [kr] | simp -dsimp -implicitDefEqProofs only [go_sem, sQ1, Av, DS])
  refine AD (TI.pw (Mi (F := F') ha h0 hl hx)) ?_
  rintro _ n1 hn1 ⟨⟨f2, rfl⟩, _⟩
  refine DC hne ?_
  refine AA (MO (F := F') ha (by rw [CH]; omega) (JU ha hx)) ?_
  rintro v g2 ⟨l2, ow⟩
  have c0 := AT ow
  simp only [AB, AF] at hn1 ow
  refine A1 c0 ?_
  exact ⟨AV.of (H2.le.trans (AK (le_push (le_push (H2.le.refl _))) (by simp only [AB]; omega)) l2), Mt.none, v, rfl, ow.wide (by omega)⟩
 | some b =>
  obtain ⟨hb, row⟩ := mt b rfl
  refine AH [[0, 1, 2], [2, 3, 4], [3, 4, 8, 9], [], [3, 4, 8], [3, 4, 8], [4, 8]] Tryz.func183 rfl (rs := [.tmp 6, .tmp 7]) rfl rfl ?_
  intro wf
  have hne : (hn g .mk == hn g .mk + 1) = false := by simp
  have hb1 : (b == hn g .mk) = false := Cw
  have hb2 : (b == hn g .mk + 1) = false := Cw
  have hb3 : (hn g .mk == b) = false := Cw
  have hb4 : (hn g .mk + 1 == b) = false := Cw
  unfold E7 at row
  repeat (first | rw [ko] | rw [kr] | simp -dsimp -implicitDefEqProofs only [go_sem, sQ1, Av, DS])
  refine AD (TI.pw (Mi (F := F') ha h0 hl hx)) ?_
  rintro _ n1 hn1 ⟨⟨f2, rfl⟩, _⟩
  refine DC hne ?_
  refine AO [(0, []), (1, []), (2, []), (3, []), (4, []), (5, []), (6, []), (7, []), (8, [1]), (9, []), (10, []), (11, [])] (by kernel_rfl) ?_
  repeat (first | rw [ko] | rw [kr] | simp -dsimp -implicitDefEqProofs only [go_sem, sQ1, Av, hne, row, hb1, hb2])
  refine AA (KC (O1 ha hx) (by rw [CH]; omega)) ?_
  rintro _ _ ⟨rfl, rfl⟩
  repeat (first | rw [ko] | rw [kr] | simp -dsimp -implicitDefEqProofs only [go_sem, sQ1, Av, hne, row, hb1, hb2, hb4])
  refine AA (MO (F := F') ha (by rw [CH]; omega) (JU ha hx)) ?_
  rintro v g2 ⟨l2, ow⟩
  have c0 := AT ow
  simp only [AB, AG, AF] at hn1 ow
  refine A1 c0 ?_
  refine ⟨?_, ?_, v, rfl, ow.wide (by omega)⟩
  ·exact AV.le (AV.setb ((AV.push (AV.push AV.refl)).up (by simp only [AB]; omega))) l2
  ·exact Mt.le (Mt.setb (r := Au r (Az a x)) (s := s) (by simp only [AF]; omega)) l2
theorem Mm {F F' : Nat → AQ} {m : AM} {p : Option Nat} {r s : Int} {a : AR} {f : AQ} {x : List Int} {k : Nat} {g : H2} (mt : Mt p g r s) (ht : CA m) (hw : BD a m.dim m.dim = true) (hx : A5 m 127 x) (hk : (k : Int) < m.context) : MI Tryz.prog W0 182 [.st (Gx F m (DS p)), .st (BV F' a), .raw (.int .i64 k), .sl f 1 (ints x)] g p (Au r (Az a x)) s (DW m k (Ad a x)) := by
 obtain ⟨ha, hwd, hrl⟩ := Cz hw
 have hl := hx.len ht
 have ht2 := EZ ht.turns
 obtain ⟨s1, s2, s3, s4, s5, s6, s7⟩ := FV ht
 have hy : A5 m 127 (Ad a x) := A5.app hw ht
 have hyl := hy.len ht
 have hpl := ht2.2.2.2.2 k hk
 rw [s4] at hpl
 refine AH [[0, 1, 2, 3], [2, 3, 4, 5], [2, 4, 10, 11], [], [2, 4, 10]] Tryz.func182 rfl (rs := [.tmp 8, .tmp 9]) rfl rfl ?_
 intro wf
 have hne : (hn g .mk == hn g .mk + 1) = false := by simp
 have p1 := mt.ne (c := hn g .mk) (Nat.le_refl _)
 have p2 := mt.ne (c := hn g .mk + 1) (by omega)
 refine DC hne ?_
 refine Bm (MI.pm (by exact mt.push.push) (Fq (F := F) (F' := F') (mt.push.push) ha (by have := ht.dim; omega) (by omega) hx.2)) ?_
 rintro _ n1 hn1 ⟨⟨f2, rfl⟩, _⟩
 simp only [AB] at hn1
 refine zh ?_
 refine AO [(0, []), (1, []), (2, []), (3, []), (4, []), (6, []), (5, [2]), (7, []), (8, []), (9, []), (10, []), (11, [])] (by kernel_rfl) ?_
 repeat (first | rw [ko] | rw [kr] | simp -dsimp -implicitDefEqProofs only [go_sem, sQ1, Av, hne, BZ p1])
 refine AD (Ya (F := F) ht) ?_
 rintro _ n2 hn2 rfl
 try (rw [kq]; refine ⟨by simp -dsimp -implicitDefEqProofs only [go_sem, sQ1, Av, hne, BZ p1], ?_⟩)
 refine zh ?_
 refine AA (Qg (F := fun j => F (j + 12)) (t := m.turns) (hd := AW m) s1 (by have := hy.1; rw [this, ← s2, Nat.mul_mod_left]) (by omega) hy.2 (by omega) (by omega) (by omega) (by omega) (by omega) hpl.1.2 hpl.2.2) ?_
 rintro _ g3 ⟨l3, v, rfl, ow⟩
 have c0 := AT ow
 simp only [AF] at hn2
 refine A1 c0 ?_
 refine ⟨?_, ?_, v, rfl, ow.wide (by simp only [AF]; omega)⟩
 ·exact AV.le (AV.up (AV.up (AV.gM (AV.push (AV.push AV.refl))) (by simp only [Bj, AB]; omega)) (by simp only [AF]; omega)) l3
 ·exact Mt.le (Mt.up (Mt.up (Mt.set (mt.push.push)) (by simp only [Bj, AB]; omega)) (by simp only [AF]; omega)) l3
end Go.Bi
end
section
set_option maxRecDepth 20000
namespace Go.Bi
open Go.Proofs
open Go.Ai (wrap_i64 wrap_u64 wrap_u8 Heap)
variable {W0 : World} {P : Program}
set_option maxHeartbeats 4000000
theorem JS {K : KT} {f : FuncId} {xs : List X} {g : H2} {p : Option Nat} {r0 s0 r s : Int} {zs : List Int} (m : Mt p g r0 s0) (c : Mt p g r0 s0 → MI P W0 f xs g p r s zs)
    (hk : ∀ y n, hn g .mk ≤ n → Mt p ((gM g p r s).up n) r s → AV p g ((gM g p r s).up n) → (∃ f, y = .tp [.sl f 1 (ints zs), .raw (.bool true)]) ∧ Bu (fun b => hn g .mk ≤ b) y → kz K y ((gM g p r s).up n) .mk) : wz P W0 f xs g K .mk :=
  Bm (MI.pm m (c m)) fun y n h q => hk y n h (Mt.up (Mt.set m) (by rw [Bj]; exact h)) (AV.up (AV.gM AV.refl) (by rw [Bj]; exact h)) q
def IE (m : AM) (x : List Int) : List At := (List.range m.heads.toNat).map fun h => EO (A2 x (AW m) h)
theorem Vv {m : AM} {x : List Int} : (IE m x).length = m.heads.toNat := by simp [IE]
theorem Xw {m : AM} {x : List Int} {i : Nat} (h : i < m.heads.toNat) : (IE m x).getD i default = EO (A2 x (AW m) i) := by
 unfold IE
 rw [List.getD_eq_getElem?_getD, List.getElem?_map, List.getElem?_range h]
 rfl
theorem Eg {x : List Int} {s n i : Nat} (h : i < n) : (Bq x s n).getD i default = A2 x s i := by
 unfold Bq
 rw [List.getD_eq_getElem?_getD, List.getElem?_map, List.getElem?_range h]
 rfl
theorem He {m : AM} (ht : CA m) : m.heads = ((m.heads.toNat : Nat) : Int) := by have := ht.heads; omega
theorem I1 {F : Nat → AQ} {m : AM} {v0 : Value} {f : AQ} {x : List Int} {g : H2} (ht : CA m) (hx : A5 m 127 x) : A7 Tryz.prog W0 184 [.st (Gx F m v0), .sl f 1 (ints x)] g (fun y g' => g.le g' ∧ ∃ w bs, y = .tp [w, .raw (.bool true)] ∧ OT g' bs w (.l 2 (Bd (IE m x))) ∧ Bl (hn g .mk) (hn g' .mk) bs) := by
 obtain ⟨s1, s2, s3, s4, s5, s6, s7⟩ := FV ht
 have hl := hx.len ht
 refine AH [[0, 1], [1, 2], [6, 7], [6, 7, 8], [7, 8, 22, 23, 24], [7, 8, 22, 23, 24], [7, 8, 10, 22, 23, 24], [7, 8, 11, 12, 22, 23, 24], [7, 8, 11, 22, 23, 24], [7, 8, 22, 23, 24], [7, 8]] Tryz.func184 rfl (rs := [.tmp 4, .tmp 5]) rfl rfl ?_
 intro wf
 have hnat := He ht
 have hl2 : (IE m x).length = m.heads.toNat := Vv
 refine zh ?_
 rw [hnat]
 refine AD (NS (n := m.heads.toNat) (size := AW m) (by omega) (by omega) (by rw [hx.1, s2]) (by omega)) ?_
 rintro _ n1 hn1 ⟨f2, rfl⟩
 simp only [AB] at hn1
 refine zh ?_
 refine AJ [22, 23] (fun mm e h' => ∃ (i : Nat) (v : X) (bs : List Nat), look e 24 .mk = .raw (.int .i64 (i : Nat)) ∧ look e 8 .mk = v ∧ look e 7 .mk = .raw (.bool true) ∧ mm + i = m.heads.toNat ∧ g.le h' ∧ Gr (hn g .mk) h' v 2 i ((((IE m x).take i).map Ev).flatten) bs) m.heads.toNat ?_ ?_
 ·exact ⟨0, _, [], AL, by simp -dsimp -implicitDefEqProofs only [go_sem, sQ1] <;> rfl, AL, by omega, le_push (AK (le_push (H2.le.refl _)) (by rw [AB]; exact hn1)), Gr.empty (by simp only [AF]; omega)⟩
 rintro mm e h' hks ⟨i, v, bs, ei, ev, et, hm, hle, gr⟩
 simp -dsimp -implicitDefEqProofs only [go_sem] at hks
 have hv := Gr.cell gr
 have hlen : (Bq x (AW m) m.heads.toNat).length = m.heads.toNat := CM
 by_cases q1 : (i : Int) < (m.heads.toNat : Int)
 ·have q2 : i < m.heads.toNat := by omega
  have w1 := BE i (by omega)
  obtain ⟨hh1, hh2⟩ := GV hx ht q2
  have hat := Eg (x := x) (s := AW m) q2
  refine UK hks ei ev et q1 q2 hlen hat ?_
  refine AA (Pd hh2 (by omega) (by omega)) ?_
  rintro _ g1 ⟨l1, w, rfl, ow⟩
  obtain ⟨b1, oy, bl1⟩ := Al.tree ow
  have hy := OT.cell oy
  refine DC hy ?_
  refine Hi (cs := [.raw (.int .i64 (Im (A2 x (AW m) i) : Nat)), w]) rfl ?_
  intro w2 g2 hs2 l2
  refine zr ?_
  have L2 : g1.le g2 := H2.le.trans AZ l2
  have o1 : Ak g1 b1 [.raw (.int .i64 (Im (A2 x (AW m) i) : Nat)), w] (Ev (EO (A2 x (AW m) i))) := ZU (c := EO (A2 x (AW m) i)) oy
  have gr1 := gr.keep (l1.trans L2)
  have hvl := gr.lt
  have ll1 := l1.1
  have ll2 := L2.1
  have ll0 := hle.1
  refine VT (P := Tryz.prog) (D := fun _ => none) (N := hn g .mk) (us := Ev (EO (A2 x (AW m) i))) Go.Ai.ty_el156 Go.Ai.ty_zr196 rfl Go.Ai.ty_cl156 gr1 hs2 (Ak.frame o1 fun q hq => by have := bl1.2 q hq; exact L2.2 q (by omega)) rfl (by omega) (fun b hb => by have := bl1.2 b hb; omega) bl1.1 (fun b hb hb' => by have := gr.bl b hb; have := bl1.2 b hb'; omega) (fun b e hb' => by have := hvl b e; have := bl1.2 b hb'; omega) (by have : Go.Ai.most = 1099511627776 := rfl; omega) ?_
  intro v' g3 gr3 nn3 le3 fr3
  have hv' := Gr.cell gr3
  refine A1 w1 ?_
  refine AI (mm - 1) (by omega) (by simp -dsimp -implicitDefEqProofs only [go_sem, sQ1, hlen]) ⟨i + 1, v', bs ++ b1, AL, AL, AL, by omega, le3 g (Nat.le_refl _) ((hle.trans l1).trans L2), ?_⟩
  rw [GM (E := Ev) (l := IE m x) (by omega), Xw q2]
  exact gr3
 ·refine Tk hks ei ev et q1 hv hlen ?_
  have hi : i = (IE m x).length := by omega
  rw [hi, List.take_length] at gr
  obtain ⟨bs', o', bl'⟩ := Gr.tree (es := Bd (IE m x)) gr (by rw [MY]) (fun e he => by obtain ⟨x, _, rfl⟩ := List.mem_map.1 he; rfl)
  exact ⟨hle, v, bs', rfl, o', bl'⟩
def iL (N : Nat) (g : H2) (y : X) (ks vs : List At) : Prop := ∃ w1 w2 b1 b2, y = .tp [w1, w2, .raw (.bool true)] ∧ OT g b1 w1 (.l 2 (Bd ks)) ∧ OT g b2 w2 (.l 2 (Bd vs)) ∧ Bl N (hn g .mk) (b1 ++ b2)
theorem N8 {F : Nat → AQ} {m : AM} {p : Option Nat} {r s : Int} {f : AQ} {x : List Int} {i k : Nat} {g : H2} (mt : Mt p g r s) (ht : CA m) (hi : i < m.layers.length) (hk : (k : Int) < m.context) (hx : A5 m 1000 x) :
  A7 Tryz.prog W0 133 [.st (Gx F m (DS p)), .raw (.int .i64 i), .raw (.int .i64 k), .sl f 1 (ints x)] g (fun y g' => AV p g g' ∧ Mt p g' (Au (Au r (Az (m.layers.getD i default).k (Ah x (m.layers.getD i default).gain1))) (Az (m.layers.getD i default).v (Ah x (m.layers.getD i default).gain1))) s ∧ iL (hn g .mk) g' y (Df m (m.layers.getD i default) k x) (DY m (m.layers.getD i default) x)) := by
 have hlay := ht.lay i hi
 obtain ⟨y1, y2, y3, y4, y5, y6, y7, y8, y9⟩ := Lz hlay
 have hg1 := HJ y1
 have hl := hx.len ht
 have hh : A5 m 127 (Ah x (m.layers.getD i default).gain1) := hx.norm
 have hhl := hh.len ht
 have hv := Cz y6
 have hd := ht.dim
 refine AH [[0, 1, 2, 3], [1, 2, 3, 4], [2, 3, 4, 11], [2, 4, 11, 12, 13], [], [2, 4, 11, 12], [4, 11, 12, 14, 15], [4, 14, 15, 16, 17], [], [4, 14, 16], [4, 15, 16, 18], [15, 17, 18, 19], [], [18, 19]] Tryz.func133 rfl (rs := [.tmp 8, .tmp 9, .tmp 10]) rfl rfl ?_
 intro wf
 have hne : (hn g .mk == hn g .mk + 1) = false := by simp
 have p1 := mt.ne (c := hn g .mk) (Nat.le_refl _)
 have p2 := mt.ne (c := hn g .mk + 1) (by omega)
 refine DC hi ?_
 refine AD (TI.pw (I7 hx.2 (by omega) (by omega) (by omega) hg1.2.1)) ?_
 rintro _ n1 hn1 ⟨⟨f1, rfl⟩, _⟩
 simp only [AB, AG] at hn1
 refine DC hne ?_
 refine JS (by exact Mt.up (Mt.put (mt.push.push) p2) (by simp only [AB, AG]; omega)) (fun mt1 => Mm (F := F) (F' := fun j => under (under (F 5) i) (j + 6)) mt1 ht y5 hh hk) ?_
 rintro _ n2 hn2 mt2 on2 ⟨⟨f2, rfl⟩, _⟩
 simp only [AF] at hn2
 repeat (first | rw [ko] | rw [kr] | simp -dsimp -implicitDefEqProofs only [go_sem, sQ1, Av, hne, BZ p1, BZ p2])
 refine JS (by exact mt2) (fun mt2 => Fq (F := F) (F' := fun j => under (under (F 5) i) (j + 11)) mt2 hv.1 (by omega) (by omega) hh.2) ?_
 rintro _ n3 hn3 mt3 on3 ⟨⟨f3, rfl⟩, _⟩
 simp only [AF] at hn3
 repeat (first | rw [ko] | rw [kr] | simp -dsimp -implicitDefEqProofs only [go_sem, sQ1, Av, hne, BZ p1])
 refine AA (I1 (F := F) ht (A5.turn (p := k) (A5.app y5 ht))) ?_
 rintro _ g4 ⟨l4, wk, b1, rfl, ok, bl1⟩
 have row4 : hg g4 (hn g .mk) .mk = _ := (l4.2 (hn g .mk) (by simp only [AF]; omega)).trans (by simp -dsimp -implicitDefEqProofs only [go_sem, Av, hne, BZ p1] <;> rfl)
 have ck := OT.cell ok
 have ll4 := l4.1
 simp only [AF] at ll4 bl1
 refine A1 row4 ?_
 refine AA (I1 (F := F) ht (A5.app y6 ht)) ?_
 rintro _ g5 ⟨l5, wv, b2, rfl, ov, bl2⟩
 have cv := OT.cell ov
 refine C5 ck cv ?_
 refine ⟨AV.le (AV.trans (AV.trans (AV.up (AV.put (AV.push (AV.push AV.refl)) (by omega)) (by simp only [AB, AG]; omega)) on2) on3) (l4.trans l5), mt3.le (l4.trans l5), wk, wv, b1, b2, rfl, ok.keep l5 bl1, ov, Bl.wide (bl1.append bl2 (by omega) l5.1) (by omega) (Nat.le_refl _)⟩
end Go.Bi
end
section
set_option maxRecDepth 20000
namespace Go.Bi
open Go.Proofs
open Go.Ai (wrap_i64 wrap_u64 wrap_u8 Heap)
variable {W0 : World} {P : Program}
set_option maxHeartbeats 4000000
theorem X7 {g : H2} {K : KT} {t u U y N : Nat} {xs zs : List Int} {x : X} {f : AQ} (he : Go.Ai.elt? P t = some (U, 1, y)) (hz : Go.Ai.zr? P U = some [.int .i64 0]) (hu : Go.Ai.cls? P u = some .sl)
  (hy : y ≤ 1000) (hx : Al N g x xs) (hN : N ≤ hn g .mk) (hn0 : xs.length + zs.length ≤ 1048576)
  (hk : ∀ v' g', Al N g' v' (xs ++ zs) → N ≤ hn g' .mk → (∀ c, c < N → hg g' c .mk = hg g c .mk) → kz K v' g' .mk) :
  az (EN P g .append [t, u] [x, .sl f 1 (ints zs)] .mk) K .mk := by
 refine G3 (D := fun _ => none) (N := N) he hz hu hx hN ?_ ?_
 ·have : Go.Ai.most = 1099511627776 := rfl
  have : (xs.length + zs.length) * (y + 1) ≤ 1048576 * 1001 := Nat.mul_le_mul hn0 (by omega)
  omega
 intro v' g' o n l k
 refine hk v' g' o (by omega) fun c hc => k c (by omega) fun e => ?_
 obtain ⟨_, h⟩ := hx
 rcases h with ⟨rfl, _⟩ | ⟨q, rfl, a1, _⟩
 ·cases e
 ·simp only [AP, Option.some.injEq] at e; omega
def VP (m : AM) (q : List Int) (ks vs : List (List At)) (n : Nat) : List Int := (List.range n).flatMap fun h => Hl (A2 q (AW m) h) (Aa ks h) (Aa vs h)
def Ge (m : AM) (q : List Int) (ks : List (List At)) (s : Int) : Nat → Int
 | 0 => s
 | n + 1 => Au (Ge m q ks s n) ((Aa ks n).map (BI (A2 q (AW m) n)))
theorem Jw {m : AM} {q : List Int} {ks vs : List (List At)} {n : Nat} : VP m q ks vs (n + 1) = VP m q ks vs n ++ Hl (A2 q (AW m) n) (Aa ks n) (Aa vs n) := by
 unfold VP
 rw [List.range_succ, List.flatMap_append, List.flatMap_cons, List.flatMap_nil, List.append_nil]
theorem QI {m : AM} {q : List Int} {ks vs : List (List At)} {b : Int} (ht : CA m) (hq : A5 m b q) : ∀ {n : Nat}, n ≤ m.heads.toNat → (VP m q ks vs n).length = n * AW m := fun {n} hn =>
 J0 (s := AW m) fun i hi => by rw [Ew]; exact (GV hq ht (by omega)).1
theorem FR {m : AM} {l : List (List At)} {h : Nat} (ht : CA m) (hl : B7 m l) (hh : h < m.heads.toNat) : KN (AW m) (Aa l h) := fun v hv => ⟨(Fe ht hl hh).2.2 v hv, (Fe ht hl hh).2.1 v hv⟩
theorem I5 {m : AM} {l : List (List At)} {h : Nat} (ht : CA m) (hl : B7 m l) (hh : h < m.heads.toNat) (i : Nat) (hi : i < l.length) : h < (l.getD i default).length ∧ G4 ((l.getD i default).getD h default) = true := by
 have := TV ht (hl i hi)
 exact ⟨by omega, (this.2 h (by omega)).1⟩
theorem SE {F : Nat → AQ} {m : AM} {p : Option Nat} {r s : Int} {f f2 f3 : AQ} {q : List Int} {ks vs : List (List At)} {g : H2} (mt : Mt p g r s) (ht : CA m) (hq : A5 m 127 q) (hks0 : B7 m ks) (hvs : B7 m vs) (hlk : vs.length = ks.length) (hk1 : 1 ≤ ks.length) (hk32 : ks.length ≤ 32) :
  MI Tryz.prog W0 185 [.st (Gx F m (DS p)), .sl f 1 (ints q), .sl f2 1 (An ks), .sl f3 1 (An vs)] g p r (Ge m q ks s m.heads.toNat) (JI m q ks vs) := by
 obtain ⟨s1, s2, s3, s4, s5, s6, s7⟩ := FV ht
 have hl := hq.len ht
 have hnat := He ht
 have hlen : (Bq q (AW m) m.heads.toNat).length = m.heads.toNat := CM
 have hNp : ∀ b, p = some b → b < hn g .mk + 1 := fun b e => by have := (mt b e).1; omega
 have pne : p ≠ some (hn g .mk) := fun e => by have := (mt _ e).1; omega
 refine AH [[0, 1, 2, 3], [1, 2, 3, 4], [2, 3, 4, 10, 11], [], [2, 3, 4, 10], [2, 3, 4, 10, 12], [2, 3, 4, 12, 31, 32, 33], [2, 3, 4, 12, 31, 32, 33], [2, 3, 4, 12, 13, 14, 31, 32, 33], [2, 3, 4, 12, 13, 14, 15, 31, 32, 33], [2, 3, 4, 12, 13, 14, 15, 31, 32, 33], [2, 3, 4, 12, 13, 14, 15, 16, 31, 32, 33], [2, 3, 4, 12, 13, 14, 15, 31, 32, 33], [2, 3, 4, 12, 18, 19, 31, 32, 33], [], [2, 3, 4, 12, 18, 31, 32, 33], [2, 3, 4, 12, 31, 32, 33], [12]] Tryz.func185 rfl (rs := [.tmp 8, .tmp 9]) rfl rfl ?_
 intro wf
 refine zh ?_
 have hA : ∀ n : Int, n = m.heads → A7 Tryz.prog W0 224 [.sl f 1 (ints q), .raw (.int .i64 n)] (g.push ⟨15, [.raw (.int .i64 m.dim), .raw (.int .i64 m.heads), .raw (.int .i64 m.context), .sl (F 3) 2 (AY m.merges), .sl (F 4) 1 (AE m.embed), .sl (F 5) 32 (Af m.layers), .sl (F 6) 1 (ints m.gainEnd), .raw (.int .i64 m.head.width), .sl (F 8) 1 (AE m.head.rows), .sl (F 9) 1 (AE m.head.scales), .raw (.int .i64 m.head.mul), .raw (.int .i64 m.head.shift), .sl (F 12) 1 (AE m.turns.cos), .sl (F 13) 1 (AE m.turns.sin), .raw (DS p)]⟩) (fun y g' => g' = (g.push ⟨15, [.raw (.int .i64 m.dim), .raw (.int .i64 m.heads), .raw (.int .i64 m.context), .sl (F 3) 2 (AY m.merges), .sl (F 4) 1 (AE m.embed), .sl (F 5) 32 (Af m.layers), .sl (F 6) 1 (ints m.gainEnd), .raw (.int .i64 m.head.width), .sl (F 8) 1 (AE m.head.rows), .sl (F 9) 1 (AE m.head.scales), .raw (.int .i64 m.head.mul), .raw (.int .i64 m.head.shift), .sl (F 12) 1 (AE m.turns.cos), .sl (F 13) 1 (AE m.turns.sin), .raw (DS p)]⟩).up (hn g' .mk) ∧ hn (g.push ⟨15, [.raw (.int .i64 m.dim), .raw (.int .i64 m.heads), .raw (.int .i64 m.context), .sl (F 3) 2 (AY m.merges), .sl (F 4) 1 (AE m.embed), .sl (F 5) 32 (Af m.layers), .sl (F 6) 1 (ints m.gainEnd), .raw (.int .i64 m.head.width), .sl (F 8) 1 (AE m.head.rows), .sl (F 9) 1 (AE m.head.scales), .raw (.int .i64 m.head.mul), .raw (.int .i64 m.head.shift), .sl (F 12) 1 (AE m.turns.cos), .sl (F 13) 1 (AE m.turns.sin), .raw (DS p)]⟩) .mk ≤ hn g' .mk ∧ ∃ f, y = .tp [.sl f 1 (AE (Bq q (AW m) m.heads.toNat)), .raw (.bool true)]) := fun n e => by
  rw [e, hnat]
  exact NS (n := m.heads.toNat) (size := AW m) (by omega) (by omega) (by rw [hq.1, s2]) (by omega)
 refine AD (hA _ rfl) ?_
 rintro _ n1 hn1 ⟨f4, rfl⟩
 simp only [AB] at hn1
 refine zh ?_
 refine AJ [2, 3, 4, 31, 32] (fun mm e h' => ∃ (i : Nat) (v : X), AV p g h' ∧ hn g .mk + 1 ≤ hn h' .mk ∧ Mt p h' r (Ge m q ks s i) ∧ hg h' (hn g .mk) .mk = some ⟨15, [.raw (.int .i64 m.dim), .raw (.int .i64 m.heads), .raw (.int .i64 m.context), .sl (F 3) 2 (AY m.merges), .sl (F 4) 1 (AE m.embed), .sl (F 5) 32 (Af m.layers), .sl (F 6) 1 (ints m.gainEnd), .raw (.int .i64 m.head.width), .sl (F 8) 1 (AE m.head.rows), .sl (F 9) 1 (AE m.head.scales), .raw (.int .i64 m.head.mul), .raw (.int .i64 m.head.shift), .sl (F 12) 1 (AE m.turns.cos), .sl (F 13) 1 (AE m.turns.sin), .raw (DS p)]⟩ ∧ look e 33 .mk = .raw (.int .i64 (i : Nat)) ∧ look e 12 .mk = v ∧ mm + i = m.heads.toNat ∧ Al (hn g .mk + 1) h' v (VP m q ks vs i)) m.heads.toNat ?_ ?_
 ·have hne : (hn g .mk == n1) = false := Cw
  exact ⟨0, _, AV.push (AV.up (AV.push AV.refl) (by rw [AB]; exact hn1)), by simp only [AB, AF]; omega, Mt.push (Mt.up mt.push (by rw [AB]; exact hn1)), by simp -dsimp -implicitDefEqProofs only [go_sem, Av, hne], AL, by simp -dsimp -implicitDefEqProofs only [go_sem, sQ1] <;> rfl, by omega, Own.new (by simp only [AF]; omega) rfl⟩
 rintro mm e h' hks ⟨i, v, onL, nn, mtL, row, ei, ev, hm, ow⟩
 simp -dsimp -implicitDefEqProofs only [go_sem, sQ1] at hks
 have hv := AT ow
 by_cases q1 : (i : Int) < (m.heads.toNat : Int)
 ·have q2 : i < m.heads.toNat := by omega
  have w1 := BE i (by omega)
  obtain ⟨hh1, hh2⟩ := GV hq ht q2
  have hat := Eg (x := q) (s := AW m) q2
  have hpl := QI (ks := ks) (vs := vs) ht hq (Nat.le_of_lt q2)
  have hok := Fe ht hks0 q2
  have hov := Fe ht hvs q2
  have hi8 : i * AW m ≤ 16 := by
   have := Nat.mul_le_mul (show i ≤ 2 by omega) (show AW m ≤ 8 by omega)
   omega
  refine Tk hks ei ev q1 q2 hlen hat ?_
  refine AD (IW (ks := ks) (I5 ht hks0 q2) (by omega)) ?_
  rintro _ n1 hn1 ⟨f6, rfl⟩
  have hn2 := hn1
  cases p with
  | none =>
   repeat (first | rw [ko] | rw [kr] | simp -dsimp -implicitDefEqProofs only [go_sem, sQ1, row, DS])
   refine AD (IW (ks := vs) (I5 ht hvs q2) (by omega)) ?_
   rintro _ n3 hn3 ⟨f4, rfl⟩
   refine zr ?_
   refine AD (TI.pw (Lc (q := A2 q (AW m) i) (ks := Aa ks i) (vs := Aa vs i) hh2 (by omega) (by omega) (by rw [hh1]; exact FR ht hks0 q2) (by rw [hh1]; exact FR ht hvs q2) (by omega) (by omega) (by omega))) ?_
   rintro _ n4 hn4 ⟨⟨f5, rfl⟩, _⟩
   refine zr ?_
   simp only [AF] at hn1 hn2 hn3 hn4
   have onS : AV none h' _ := AV.up (AV.up (AV.up AV.refl hn1) (by simp only [AF]; omega)) (by simp only [AF]; omega)
   have owS := Own.on ow onS mtL hNp
   refine X7 (P := Tryz.prog) Go.Ai.ty_el25 Go.Ai.ty_zr3 Go.Ai.ty_cl25 (by omega) owS (by simp only [AF]; omega) (by rw [hpl, Ew, hh1]; omega) ?_
   intro v4 g4 ow4 nn4 on4
   rw [← Jw] at ow4
   have row4 : hg g4 (hn g .mk) .mk = _ := (on4 (hn g .mk) (by omega)).trans ((onS.2 (hn g .mk) (by omega) pne).trans row)
   have onG := onL.trans onS
   refine A1 w1 ?_
   exact AI (mm - 1) (by omega) (by simp -dsimp -implicitDefEqProofs only [go_sem, sQ1, hlen]) ⟨i + 1, v4, AV.below onG (by omega) nn4 on4, nn4, Mt.below (Mt.none) hNp nn4 on4, row4, AL, AL, by omega, ow4⟩
  | some b =>
   obtain ⟨hb, mrow⟩ := mtL b rfl
   have hb0 := (mt b rfl).1
   unfold E7 at mrow
   have b1 : (hn g .mk == b) = false := Cw
   have b2 : (b == hn g .mk) = false := Cw
   repeat (first | rw [ko] | rw [kr] | simp -dsimp -implicitDefEqProofs only [go_sem, sQ1, row, DS])
   refine AD (TI.pw (LA (q := A2 q (AW m) i) (ks := Aa ks i) hh2 (by omega) (by omega) (by rw [hh1]; exact FR ht hks0 q2) (by omega))) ?_
   rintro _ n2 hn2 ⟨⟨f7, rfl⟩, _⟩
   refine zr ?_
   refine AO [(0, []), (1, []), (2, []), (3, []), (4, []), (5, []), (6, []), (7, []), (8, [1]), (9, []), (10, []), (11, [])] (by kernel_rfl) ?_
   repeat (first | rw [ko] | rw [kr] | simp -dsimp -implicitDefEqProofs only [go_sem, sQ1, row, DS, mrow])
   refine AA (KC (l := (Aa ks i).map (BI (A2 q (AW m) i))) (fun y hy => by
    obtain ⟨k, hk, rfl⟩ := List.mem_map.1 hy
    have := Ht hh2 (hok.2.1 k hk) (by omega)
    omega) (by rw [List.length_map]; omega)) ?_
   rintro _ _ ⟨rfl, rfl⟩
   repeat (first | rw [ko] | rw [kr] | simp -dsimp -implicitDefEqProofs only [go_sem, sQ1, row, DS, mrow])
   refine AD (IW (ks := vs) (I5 ht hvs q2) (by omega)) ?_
   rintro _ n3 hn3 ⟨f4, rfl⟩
   refine zr ?_
   refine AD (TI.pw (Lc (q := A2 q (AW m) i) (ks := Aa ks i) (vs := Aa vs i) hh2 (by omega) (by omega) (by rw [hh1]; exact FR ht hks0 q2) (by rw [hh1]; exact FR ht hvs q2) (by omega) (by omega) (by omega))) ?_
   rintro _ n4 hn4 ⟨⟨f5, rfl⟩, _⟩
   refine zr ?_
   simp only [AF, AG] at hn1 hn2 hn3 hn4
   have onS : AV (some b) h' _ := AV.up (AV.up (AV.setb (k := E7 r (Ge m q ks s (i + 1))) (AV.up (AV.up AV.refl hn1) (by simp only [AF]; omega))) (by simp only [AF, AG]; omega)) (by simp only [AF]; omega)
   have owS := Own.on ow onS mtL hNp
   refine X7 (P := Tryz.prog) Go.Ai.ty_el25 Go.Ai.ty_zr3 Go.Ai.ty_cl25 (by omega) owS (by simp only [AF]; omega) (by rw [hpl, Ew, hh1]; omega) ?_
   intro v4 g4 ow4 nn4 on4
   rw [← Jw] at ow4
   have row4 : hg g4 (hn g .mk) .mk = _ := (on4 (hn g .mk) (by omega)).trans ((onS.2 (hn g .mk) (by omega) pne).trans row)
   have onG := onL.trans onS
   refine A1 w1 ?_
   exact AI (mm - 1) (by omega) (by simp -dsimp -implicitDefEqProofs only [go_sem, sQ1, hlen]) ⟨i + 1, v4, AV.below onG (by omega) nn4 on4, nn4, Mt.below (Mt.up (Mt.up (Mt.setb (r := r) (s := Ge m q ks s (i + 1)) (by simp only [AF]; omega)) (by simp only [AF, AG]; omega)) (by simp only [AF]; omega)) hNp nn4 on4, row4, AL, AL, by omega, ow4⟩
 ·refine PY hks ei ev q1 hv hlen ?_
  have hi : i = m.heads.toNat := by omega
  subst hi
  exact ⟨onL, mtL, v, rfl, ow.wide (by omega)⟩
end Go.Bi
end
section
set_option maxRecDepth 20000
namespace Go.Bi
open Go.Proofs
open Go.Ai (wrap_i64 wrap_u64 wrap_u8 Heap)
variable {W0 : World} {P : Program}
set_option maxHeartbeats 4000000
def ba : X → Bool
 | .raw _ => true
 | .sl _ _ _ => true
 | _ => false
theorem Hn {p : Nat → Prop} {g : H2} {x : X} (h : ba x = true) : Fz p (fun _ => True) g x x := by
 cases x with
 | raw => exact .raw
 | sl f z es => exact .sl (.sl (Ee _ _))
 | pr => cases h
 | st => cases h
 | tp => cases h
theorem EI {p : Nat → Prop} {g : H2} {xs : List X} (h : xs.all ba = true) : Fz p (fun _ => True) g (.st xs) (.st xs) := .st rfl fun i hi hi' => Hn (List.all_eq_true.1 h _ (List.getElem_mem hi))
def Yo (l : Aj) (x : List Int) (r : Int) : Int := Au (Au r (Az l.up (Ah x l.gain2))) (Az l.down ((Ad l.up (Ah x l.gain2)).map C6))
def TQ (l : Aj) (x : List Int) : List Int := Ad l.down ((Ad l.up (Ah x l.gain2)).map C6)
theorem Lx {l : List Int} (h : Ay 127 l) : Ay 127 (l.map C6) := fun y hy => by
 obtain ⟨x, hx, rfl⟩ := List.mem_map.1 hy
 exact WZ (h x hx)
theorem Wr {F F' : Nat → AQ} {m : AM} {l : Aj} {p : Option Nat} {r s : Int} {f : AQ} {x : List Int} {g : H2} (mt : Mt p g r s) (ht : CA m) (hlay : Cm l m.dim = true) (hx : A5 m 1000 x) :
  PM Tryz.prog W0 187 [.st (Gx F m (DS p)), .st (C1 F' l), .sl f 1 (ints x)] g p (Yo l x r) s fun y => (∃ f, y = .tp [.sl f 1 (ints (TQ l x)), .raw (.bool true)]) ∧ Bu (fun b => hn g .mk ≤ b) y := by
 refine (PM.of (q := fun b => hn g .mk ≤ b) (Q := fun y => ∃ f, y = .tp [.sl f 1 (ints (TQ l x)), .raw (.bool true)]) mt ?_).mono fun y ⟨h1, h2⟩ => ⟨h1, h2.imp fun b hb => hb.elim id id⟩
 obtain ⟨y1, y2, y3, y4, y5, y6, y7, y8, y9⟩ := Lz hlay
 have hg2 := HJ y2
 have hl := hx.len ht
 have hh : A5 m 127 (Ah x l.gain2) := hx.norm
 have hhl := hh.len ht
 have hu := Cz y8
 have hdn := Cz y9
 have hd := ht.dim
 have hul : (Ad l.up (Ah x l.gain2)).length = l.up.rows.length := E5
 have hua : Ay 127 (Ad l.up (Ah x l.gain2)) := IK
 refine AH [[0, 1, 2], [2, 3, 4], [3, 4, 8, 9], [], [3, 4, 8], [3, 4, 9, 10], [], [3, 4, 10], [3, 4, 10, 32, 33, 34], [3, 4, 10, 32, 33, 34], [3, 4, 10, 11, 12, 32, 33, 34], [3, 4, 10, 32, 33, 34], [3, 4, 10]] Tryz.func187 rfl (rs := [.tmp 6, .tmp 7]) rfl rfl ?_
 intro wf
 have hne : (hn g .mk == hn g .mk + 1) = false := by simp
 refine zh ?_
 refine AD (TI.pw (I7 hx.2 (by omega) (by omega) (by omega) hg2.2.1)) ?_
 rintro _ n1 hn1 ⟨⟨f1, rfl⟩, _⟩
 simp only [AB] at hn1
 refine DC hne ?_
 refine AA (Fq (F := F) (F' := fun j => F' (j + 22)) (Mt.up (n := n1) (mt.push.push) (by simp only [AB]; omega)) hu.1 (by omega) (by omega) hh.2) ?_
 rintro _ g2 ⟨on2, mt2, v, rfl, ow⟩
 have p1 := mt.ne (c := hn g .mk) (Nat.le_refl _)
 have p2 := mt.ne (c := hn g .mk + 1) (by omega)
 have nn2 := on2.1
 simp only [AF] at nn2 ow
 have r1 : hg g2 (hn g .mk) .mk = _ := on2.at (c := hn g .mk) (by simp only [AF]; omega) p1 (by simp -dsimp -implicitDefEqProofs only [go_sem, Av, hne] <;> rfl)
 have r2 : hg g2 (hn g .mk + 1) .mk = _ := on2.at (c := hn g .mk + 1) (by simp only [AF]; omega) p2 (by simp -dsimp -implicitDefEqProofs only [go_sem, Av] <;> rfl)
 obtain ⟨b, rfl, hb1, hb2, hb3⟩ := I3 ow (by omega)
 have on1 : AV p g _ := AV.trans (AV.up (n := n1) (AV.push (AV.push AV.refl)) (by simp only [AB]; omega)) on2
 have pb : (p == some b) = false := mt.ne (by omega)
 have hb1' : (hn g .mk == b) = false := Cw
 have hb2' : (hn g .mk + 1 == b) = false := Cw
 refine A1 hul ?_
 refine AJ [3, 4, 10, 32, 33] (fun mm e h' => ∃ (i : Nat), AV p g h' ∧ b < hn h' .mk ∧ Mt p h' (Au r (Az l.up (Ah x l.gain2))) s ∧ hg h' (hn g .mk) .mk = some ⟨15, [.raw (.int .i64 m.dim), .raw (.int .i64 m.heads), .raw (.int .i64 m.context), .sl (F 3) 2 (AY m.merges), .sl (F 4) 1 (AE m.embed), .sl (F 5) 32 (Af m.layers), .sl (F 6) 1 (ints m.gainEnd), .raw (.int .i64 m.head.width), .sl (F 8) 1 (AE m.head.rows), .sl (F 9) 1 (AE m.head.scales), .raw (.int .i64 m.head.mul), .raw (.int .i64 m.head.shift), .sl (F 12) 1 (AE m.turns.cos), .sl (F 13) 1 (AE m.turns.sin), .raw (DS p)]⟩ ∧ hg h' (hn g .mk + 1) .mk = some ⟨32, C1 F' l⟩ ∧ look e 34 .mk = .raw (.int .i64 (i : Nat)) ∧ mm + i = l.up.rows.length ∧ hg h' b .mk = some ⟨1, (IV C6 (Ad l.up (Ah x l.gain2)) i).map cI⟩) l.up.rows.length ?_ ?_
 ·exact ⟨0, on1, hb2, mt2, r1, r2, AL, by omega, hb3⟩
 rintro mm e h' hks ⟨i, onL, hbn, mtL, row1, row2, ei, hm, rowb⟩
 simp -dsimp -implicitDefEqProofs only [go_sem, sQ1] at hks
 by_cases q1 : (i : Int) < (l.up.rows.length : Int)
 ·have q2 : i < l.up.rows.length := by omega
  have q3 : i < (Ad l.up (Ah x l.gain2)).length := by omega
  have q4 : i < (IV C6 (Ad l.up (Ah x l.gain2)) i).length := by rw [O2 (by omega)]; exact q3
  have w1 := BE i (by omega)
  have hgt := eC q4
  rw [RH q3] at hgt
  have hxi := Ag (by omega) hua i
  have hwr := eH (v := C6 ((Ad l.up (Ah x l.gain2)).getD i default)) q4
  rw [OP q3] at hwr
  have hi3 : (0 : Int) ≤ (i : Int) ∧ (i : Int) < (l.up.rows.length : Int) := by omega
  repeat (first | rw [ko] | rw [kr] | simp -dsimp -implicitDefEqProofs only [go_sem, sQ1, hks, ei, q1, rowb, hgt, hi3, Int.toNat_natCast])
  refine AA (Ym hxi) ?_
  rintro _ _ ⟨rfl, rfl⟩
  repeat (first | rw [ko] | rw [kr] | simp -dsimp -implicitDefEqProofs only [go_sem, sQ1, q1, rowb, hwr, w1, hi3, Int.toNat_natCast])
  exact AI (mm - 1) (by omega) AL ⟨i + 1, AV.put onL (by omega), hbn, mtL.put pb, by simp -dsimp -implicitDefEqProofs only [go_sem, hb1', row1], by simp -dsimp -implicitDefEqProofs only [go_sem, hb2', row2], AL, by omega, by simp -dsimp -implicitDefEqProofs only [go_sem, Av]⟩
 have hi : i = (Ad l.up (Ah x l.gain2)).length := by omega
 rw [hi, N1] at rowb
 have ow2 : Al b h' (.raw (.slice (some ⟨b, 0, none⟩) l.up.rows.length l.up.rows.length)) ((Ad l.up (Ah x l.gain2)).map C6) := JJ (by rw [List.length_map]; omega) (Nat.le_refl _) hbn rowb
 obtain ⟨f9, hf9⟩ := Al.fz (p := fun c => p ≠ some c) (q := fun _ => True) ow2 (fun c hc e => by have := (mt c e).1; omega)
 refine FD hks ei q1 row1 row2 ?_
 refine Bm (PM.lend (.cons (EI (xs := Gx F m (DS p)) rfl) (.cons (EI (xs := BV (fun j => F' (j + 27)) l.down) rfl) (.cons hf9 .nil))) mtL (MI.pm mtL.bar (Fq (F := F) (F' := fun j => F' (j + 27)) mtL.bar hdn.1 (by omega) (by rw [List.length_map]; omega) (Lx hua))) fun y hy => by have := hy.2; rwa [CW] at this) ?_
 rintro _ n9 hn9 ⟨⟨f10, rfl⟩, hall⟩
 rw [CW] at hall
 refine zr ?_
 refine ⟨AV.up (AV.gM onL) (by rw [Bj]; exact hn9), Mt.up (Mt.set mtL) (by rw [Bj]; exact hn9), _, Z4 (.sl (by cases hall with | tp hh => exact (hh _ List.mem_cons_self).imp fun c hc => Nat.le_trans onL.1 hc)) .raw, f10, rfl⟩
def NI (m : AM) (l : Aj) (k : Nat) (x : List Int) (ks vs : List (List At)) (r : Int) : Int :=
 Yo l (Kf m l k x ks vs) (Au (Au r (Az l.q (Ah x l.gain1))) (Az l.o (JI m (DW m k (Ad l.q (Ah x l.gain1))) ks vs)))
def Qb (m : AM) (l : Aj) (k : Nat) (x : List Int) (ks : List (List At)) (s : Int) : Int := Ge m (DW m k (Ad l.q (Ah x l.gain1))) ks s m.heads.toNat
theorem MZ {F : Nat → AQ} {m : AM} {p : Option Nat} {r s : Int} {f f2 f3 : AQ} {x : List Int} {ks vs : List (List At)} {i k : Nat} {g : H2} (mt : Mt p g r s) (ht : CA m) (hi : i < m.layers.length) (hk : (k : Int) < m.context) (hx : A5 m 1000 x) (hks0 : B7 m ks) (hvs : B7 m vs) (hlk : vs.length = ks.length) (hk1 : 1 ≤ ks.length) (hk32 : ks.length ≤ 32) :
  MI Tryz.prog W0 134 [.st (Gx F m (DS p)), .raw (.int .i64 i), .raw (.int .i64 k), .sl f 1 (ints x), .sl f2 1 (An ks), .sl f3 1 (An vs)] g p (NI m (m.layers.getD i default) k x ks vs r) (Qb m (m.layers.getD i default) k x ks s) (Mh m (m.layers.getD i default) k x ks vs) := by
 have hlay := ht.lay i hi
 obtain ⟨y1, y2, y3, y4, y5, y6, y7, y8, y9⟩ := Lz hlay
 have hg1 := HJ y1
 have hl := hx.len ht
 have hh : A5 m 127 (Ah x (m.layers.getD i default).gain1) := hx.norm
 have hq : A5 m 127 (DW m k (Ad (m.layers.getD i default).q (Ah x (m.layers.getD i default).gain1))) := A5.turn (A5.app y4 ht)
 have hall : A5 m 127 (JI m (DW m k (Ad (m.layers.getD i default).q (Ah x (m.layers.getD i default).gain1))) ks vs) := Xc ht hq
 have hhl := hall.len ht
 have ho := Cz y7
 have hoI : A5 m 127 (Ad (m.layers.getD i default).o (JI m (DW m k (Ad (m.layers.getD i default).q (Ah x (m.layers.getD i default).gain1))) ks vs)) := A5.app y7 ht
 have hmid : A5 m 500 (Kf m (m.layers.getD i default) k x ks vs) := WY hx
 have hdI : A5 m 127 (TQ (m.layers.getD i default) (Kf m (m.layers.getD i default) k x ks vs)) := A5.app y9 ht
 have hol := hoI.len ht
 have hml := hmid.len ht
 have hdl := hdI.len ht
 have hd := ht.dim
 refine AH [[0, 1, 2, 3, 4, 5], [1, 2, 3, 4, 5, 6], [2, 3, 4, 5, 6, 14], [2, 3, 4, 5, 6, 14, 15, 16], [], [2, 3, 4, 5, 6, 14, 15], [3, 4, 5, 6, 14, 16, 17], [], [3, 4, 5, 6, 14, 17], [3, 6, 14, 16, 18], [], [3, 6, 14, 18], [3, 6, 14, 16, 19], [], [3, 6, 14, 19], [6, 14, 16, 20], [], [6, 14, 20], [16, 20, 21], [], [20, 21]] Tryz.func134 rfl (rs := [.tmp 12, .tmp 13]) rfl rfl ?_
 intro wf
 have hne : (hn g .mk == hn g .mk + 1) = false := by simp
 have p1 := mt.ne (c := hn g .mk) (Nat.le_refl _)
 have p2 := mt.ne (c := hn g .mk + 1) (by omega)
 refine DC hi ?_
 refine AD (TI.pw (I7 hx.2 (by omega) (by omega) (by omega) hg1.2.1)) ?_
 rintro _ n1 hn1 ⟨⟨f4, rfl⟩, _⟩
 simp only [AB, AG] at hn1
 refine DC hne ?_
 refine JS (by exact Mt.up (Mt.put (mt.push.push) p2) (by simp only [AB, AG]; omega)) (fun mt1 => Mm (F := F) (F' := fun j => under (under (F 5) i) (j + 1)) mt1 ht y4 hh hk) ?_
 rintro _ n2 hn2 mt2 on2 ⟨⟨f5, rfl⟩, _⟩
 simp only [AF] at hn2
 repeat (first | rw [ko] | rw [kr] | simp -dsimp -implicitDefEqProofs only [go_sem, sQ1, Av, hne, BZ p1])
 refine JS (by exact mt2) (fun mt2 => SE (F := F) mt2 ht hq hks0 hvs hlk hk1 hk32) ?_
 rintro _ n3 hn3 mt3 on3 ⟨⟨f6, rfl⟩, _⟩
 simp only [AF] at hn3
 repeat (first | rw [ko] | rw [kr] | simp -dsimp -implicitDefEqProofs only [go_sem, sQ1, Av, hne, BZ p1, BZ p2])
 refine JS (by exact mt3) (fun mt3 => Fq (F := F) (F' := fun j => under (under (F 5) i) (j + 16)) mt3 ho.1 (by omega) (by omega) hall.2) ?_
 rintro _ n4 hn4 mt4 on4 ⟨⟨f7, rfl⟩, _⟩
 simp only [AF] at hn4
 refine zh ?_
 refine AD (TI.pw (Td (x := x) (y := Ad (m.layers.getD i default).o (JI m (DW m k (Ad (m.layers.getD i default).q (Ah x (m.layers.getD i default).gain1))) ks vs)) hx.2 (Bz hoI.2 (by omega)) (by omega) (by omega))) ?_
 rintro y n5 hn5 ⟨⟨f8, hy⟩, _⟩
 obtain rfl : y = .tp [.sl f8 1 (ints (Kf m (m.layers.getD i default) k x ks vs)), .raw (.bool true)] := hy
 simp only [AF] at hn5
 repeat (first | rw [ko] | rw [kr] | simp -dsimp -implicitDefEqProofs only [go_sem, sQ1, Av, hne, BZ p1, BZ p2])
 have mt5 := Mt.up (n := n5) mt4 hn5
 refine Bm (Wr (F := F) (F' := fun j => under (under (F 5) i) j) (l := m.layers.getD i default) mt5 ht hlay (hmid.mono (by omega))) ?_
 rintro _ n6 hn6 ⟨⟨f9, rfl⟩, _⟩
 simp only [AF] at hn6
 refine zh ?_
 refine AA (Td (x := Kf m (m.layers.getD i default) k x ks vs) (y := TQ (m.layers.getD i default) (Kf m (m.layers.getD i default) k x ks vs)) (Bz hmid.2 (by omega)) (Bz hdI.2 (by omega)) (by omega) (by omega)) ?_
 rintro _ g7 ⟨l7, v, rfl, ow⟩
 have c0 := AT ow
 simp only [AF] at ow
 refine A1 c0 ?_
 refine ⟨AV.le (AV.up (AV.gM (AV.up (AV.trans (AV.trans (AV.trans (AV.up (AV.put (AV.push (AV.push AV.refl)) (by omega)) (by simp only [AB, AG]; omega)) on2) on3) on4) hn5)) (by simp only [AF, Bj]; omega)) l7, Mt.le (Mt.up (Mt.set mt5) (by simp only [AF, Bj]; omega)) l7, v, rfl, ow.wide (by omega)⟩
end Go.Bi
end
section
set_option maxRecDepth 20000
namespace Go.Bi
open Go.Proofs
open Go.Ai (wrap_i64 wrap_u64 wrap_u8 Heap)
variable {W0 : World} {P : Program}
set_option maxHeartbeats 4000000
theorem iC {p q : Nat → Prop} {g : H2} {x y x2 y2 x3 y3 : X} (h : Fz p q g x y) (h2 : Fz p q g x2 y2) (h3 : Fz p q g x3 y3) : Fz p q g (.tp [x, x2, x3]) (.tp [y, y2, y3]) := .tp rfl fun i hi hi' => by
 rcases i with _ | _ | _ | i
 ·exact h
 ·exact h2
 ·exact h3
 ·simp at hi; omega
theorem dD {p q : Nat → Prop} {g : H2} {x y x2 y2 : X} (h : Fz p q g x y) (h2 : Fz p q g x2 y2) : Fz p q g (.st [x, x2]) (.st [y, y2]) := .st rfl fun i hi hi' => by
 rcases i with _ | _ | i
 ·exact h
 ·exact h2
 ·simp at hi; omega
theorem CJ {g : H2} {K : KT} {t u U z y N n : Nat} {zs : List Value} {cs news : List X} {x v : X} (he : Go.Ai.elt? P t = some (U, z + 1, y)) (hz : Go.Ai.zr? P U = some zs) (hl : zs.length = z + 1) (hu : Go.Ai.cls? P u = some .sl)
    (hx : Own N g x (z + 1) n cs) (hs : E0 g (z + 1) v = some (1, news)) (hlen : news.length = z + 1) (hok : news.all FC = true) (hn0 : (n + 1) * (y + 1) ≤ Go.Ai.most)
    (hk : ∀ g', hg g' (hn g .mk) .mk = some ⟨z + 1, cs ++ news⟩ → hn g' .mk = hn g .mk + 1 → (∀ b, b < hn g .mk → AP x ≠ some b → hg g' b .mk = hg g b .mk) → kz K (.raw (.slice (some ⟨hn g .mk, 0, none⟩) (n + 1) (n + 1))) g' .mk) :
    az (EN P g .append [t, u] [x, v] .mk) K .mk := by
  obtain ⟨hlen0, hcase⟩ := hx
  have key : ∀ a, x = .raw (.slice a n n) → EN P g .append [t, u] [x, v] .mk = (match a with
        | none => some (.raw (.slice (some ⟨g.n, 0, none⟩) 1 1), g.push ⟨z + 1, news⟩)
        | some a => match g.get a.block with
          | some k => if k.z = z + 1 ∧ a.off = 0 then (Jl k.cs 0 (n * (z + 1))).map fun olds => (.raw (.slice (some ⟨g.n, 0, none⟩) (n + 1) (n + 1)), (g.kill a.block).push ⟨z + 1, olds ++ news⟩) else none
          | none => none) := by
    intro a ha
    subst ha
    simp only [EN, B1, hu, Gb, he, hs, hz]
    rw [if_pos ⟨hl, hn0, hok⟩, if_neg (by omega)]
    rfl
  have hmv : ∀ b : Nat, (b == b) = true := by simp
  rcases hcase with ⟨rfl, rfl⟩ | ⟨b, rfl, hNb, hbn, hb⟩
  · have hcs : cs = [] := List.eq_nil_of_length_eq_zero (by omega)
    subst hcs
    rw [key none rfl]
    refine hk _ ?_ (by rw [AB]) ?_
    · rw [Ap]; show Go.Bi.hk (g.n == g.n) _ _ _ _ = _; rw [hmv]; rfl
    · intro b' hb' _
      rw [Ap, show (b' == hn g .mk) = false by simp; omega]; rfl
  · have hb' : g.get b = some ⟨z + 1, cs⟩ := hb
    rw [key _ rfl]
    simp only [hb']
    rw [if_pos ⟨trivial, trivial⟩, Gi hlen0]
    refine hk _ ?_ (by rw [AB, Bh]) ?_
    · rw [Ap, Bh]; show Go.Bi.hk (g.n == g.n) _ _ _ _ = _; rw [hmv]; rfl
    · intro b' hb2 hne'
      have hbb : (b' == b) = false := by
        have : ¬ b' = b := fun e => hne' (by rw [e]; rfl)
        simp [this]
      rw [Ap, Bh, show (b' == hn g .mk) = false by simp; omega, FB, FO, hbb]; rfl
def CO {α : Type} (e : α → List T) (z : Nat) (g : H2) (b : Nat) (l : List α) : Prop := b < hn g .mk ∧ ∃ cs, hg g b .mk = some ⟨z, cs⟩ ∧ C9 e z cs l
theorem CO.own {α : Type} {e : α → List T} {z N : Nat} {g : H2} {b : Nat} {l : List α} (r : CO e z g b l) (h : N ≤ b) : ∃ cs, Own N g (.raw (.slice (some ⟨b, 0, none⟩) l.length l.length)) z l.length cs ∧ C9 e z cs l := by
 obtain ⟨h1, cs, h2, h3⟩ := r
 exact ⟨cs, ⟨h3.2.2, .inr ⟨b, rfl, h, h1, h2⟩⟩, h3⟩
theorem CO.keep {α : Type} {e : α → List T} {z : Nat} {g g' : H2} {b : Nat} {l : List α} (r : CO e z g b l) (hn' : hn g .mk ≤ hn g' .mk) (h : hg g' b .mk = hg g b .mk) : CO e z g' b l := by
 obtain ⟨h1, cs, h2, h3⟩ := r
 exact ⟨by omega, cs, h.trans h2, h3⟩
theorem M3 {α : Type} {e : α → List T} {z : Nat} (hE : Sx e (z + 1)) {g : H2} {K : KT} {t u U y b n : Nat} {zs : List Value} {l : List α} {a : α} {f : AQ} (he : Go.Ai.elt? P t = some (U, z + 1, y)) (hz : Go.Ai.zr? P U = some zs) (hl : zs.length = z + 1) (hu : Go.Ai.cls? P u = some .sl)
  (hy : y ≤ 1000) (hx : CO e (z + 1) g b l) (hnl : n = l.length) (hn0 : l.length ≤ 1048576)
  (hk : ∀ g', CO e (z + 1) g' (hn g .mk + 1) (l ++ [a]) → hn g' .mk = hn g .mk + 2 → (∀ c, c < hn g .mk → c ≠ b → hg g' c .mk = hg g c .mk) → kz K (.raw (.slice (some ⟨hn g .mk + 1, 0, none⟩) (n + 1) (n + 1))) g' .mk) :
  az (EN P (g.up (hn g .mk + 1)) .append [t, u] [.raw (.slice (some ⟨b, 0, none⟩) n n), .sl f (z + 1) [e a]] .mk) K .mk := by
 subst hnl
 obtain ⟨cs, ow, hc⟩ := hx.own (Nat.zero_le b)
 have h2 : C9 e (z + 1) (CC f 0 ([a].map e)) [a] := Oy hE
 refine CJ (z := z) (N := 0) (news := CC f 0 ([a].map e)) he hz hl hu (Own.keep ow (AK (H2.le.refl _) (Nat.le_succ (hn g .mk)))) ?_ (by have := h2.2.2; simpa using this) h2.ok ?_ ?_
 ·simp only [E0, if_true, List.map_cons, List.map_nil, List.length_cons, List.length_nil]
 ·have : Go.Ai.most = 1099511627776 := rfl
  have : (l.length + 1) * (y + 1) ≤ 1048577 * 1001 := Nat.mul_le_mul (by omega) (by omega)
  omega
 intro g' h3 h4 h5
 rw [AF] at h3 h4
 exact hk g' ⟨by omega, _, h3, hc.app h2⟩ h4 fun c h6 h7 => h5 c (by rw [AF]; omega) (by simp only [AP, ne_eq, Option.some.injEq]; omega)
theorem Jn {p : Nat → Prop} {g : H2} {b n : Nat} {cs : List X} {l : List (List At)} {w : X} {ps : List At} {bs : List Nat} (hb : hg g b .mk = some ⟨1, cs ++ [w]⟩) (hc : C9 CL 1 cs l) (hw : OT g bs w (.l 2 (Bd ps))) (hpb : p b) (hbs : ∀ c ∈ bs, p c) (hnl : n = l.length + 1) :
  ∃ f, Fz p (fun _ => True) g (.raw (.slice (some ⟨b, 0, none⟩) n n)) (.sl f 1 (An (l ++ [ps]))) := by
 subst hnl
 obtain ⟨f0, hf0⟩ := OT.fz (p := p) (q := fun _ => True) hw hbs
 have hcl := hc.2.2
 rw [Nat.mul_one] at hcl
 have hts : CR (cs ++ [Yu f0 (.l 2 (Bd ps))]) = some ((l ++ [ps]).flatMap CL) := by
  rw [List.flatMap_append]
  exact Lq hc.1 rfl
 have h := Fz.own (p := p) (q := fun _ => True) (g := g) (b := b) (n := l.length + 1) (z := 1) (cs := cs ++ [w]) (cs' := cs ++ [Yu f0 (.l 2 (Bd ps))]) hb hpb (by simp [hcl]) (by simp) (fun i hi hi' => ?_) hts
 ·have e := Hu Fy (l := l ++ [ps])
  rw [List.length_append] at e
  rw [show l.length + 1 = l.length + [ps].length from rfl, e] at h
  exact ⟨_, h⟩
 ·by_cases hlt : i < cs.length
  ·rw [List.getElem_append_left hlt, List.getElem_append_left hlt]
   rcases hc.2.1 _ (List.getElem_mem hlt) with ⟨n, e⟩ | ⟨f, k, es, e⟩
   ·rw [e]; exact .raw
   ·rw [e]; exact .sl (.sl (Ee _ _))
  ·have : i = cs.length := by simp at hi; omega
   subst this
   simpa using hf0
theorem Gr.on {N : Nat} {g g' : H2} {v : X} {z n : Nat} {ts : List T} {bs : List Nat} {p : Option Nat} {r s : Int} (gr : Gr N g v z n ts bs) (l : AV p g g') (m : Mt p g r s) (hN : ∀ b, p = some b → b < N) : Gr N g' v z n ts bs := by
 obtain ⟨cs, o, t, b, d⟩ := gr
 refine ⟨cs, o.on l m hN, t.frame fun c hc => l.2 c (b.2 c hc).2 fun e => ?_, b.wide (Nat.le_refl _) l.1, d⟩
 have := hN c e
 have := (b.2 c hc).1
 omega
theorem Gr.frame {N : Nat} {g g' : H2} {v : X} {z n : Nat} {ts : List T} {bs : List Nat} (gr : Gr N g v z n ts bs) (hn' : hn g .mk ≤ hn g' .mk) (h : ∀ c, c ∈ bs ∨ AP v = some c → hg g' c .mk = hg g c .mk) : Gr N g' v z n ts bs := by
 obtain ⟨cs, ⟨o1, o2⟩, t, b, d⟩ := gr
 refine ⟨cs, ⟨o1, o2.imp_right fun ⟨q, e1, e2, e3, e4⟩ => ⟨q, e1, e2, by omega, (h q (.inr (by rw [e1]; rfl))).trans e4⟩⟩, t.frame fun c hc => h c (.inl hc), b.wide (Nat.le_refl _) hn', d⟩
theorem Gr.put {N c : Nat} {g : H2} {v : X} {z n : Nat} {ts : List T} {bs : List Nat} {k : OB} (gr : Gr N g v z n ts bs) (h : c < N) : Gr N (g.set c k) v z n ts bs := gr.frame (Nat.le_refl _) fun d hd => by
 have : N ≤ d := hd.elim (fun h => (gr.bl d h).1) (fun h => (gr.lt d h).1)
 rw [BA, show (d == c) = false by simp; omega]; rfl
theorem OT.put {N c : Nat} {g : H2} {x : X} {t : T} {bs : List Nat} {k : OB} {M : Nat} (o : OT g bs x t) (b : Bl N M bs) (h : c < N) : OT (g.set c k) bs x t := o.frame fun d hd => by
 have := (b.2 d hd).1
 exact (show hg (g.set c k) d .mk = hg g d .mk by rw [BA, show (d == c) = false by simp; omega]; rfl)
theorem Bl.left {N M : Nat} {a b : List Nat} (h : Bl N M (a ++ b)) : Bl N M a := ⟨(List.nodup_append.1 h.1).1, fun x hx => h.2 x (List.mem_append.2 (.inl hx))⟩
theorem Bl.right {N M : Nat} {a b : List Nat} (h : Bl N M (a ++ b)) : Bl N M b := ⟨(List.nodup_append.1 h.1).2.1, fun x hx => h.2 x (List.mem_append.2 (.inr hx))⟩
theorem Bl.disj {N M : Nat} {a b : List Nat} (h : Bl N M (a ++ b)) : ∀ x ∈ a, x ∉ b := fun x hx hy => (List.nodup_append.1 h.1).2.2 x hx x hy rfl
theorem Ii {g : H2} {K : KT} {t u U z y N n : Nat} {zs : List Value} {v w : X} {ys : List X} {ts us : List T} {bs b2 : List Nat} (he : Go.Ai.elt? P t = some (U, z + 1, y)) (hz : Go.Ai.zr? P U = some zs) (hl : zs.length = z + 1) (hu : Go.Ai.cls? P u = some .sl)
  (hy : y ≤ 1000) (gr : Gr N g v (z + 1) n ts bs) (hs : E0 g (z + 1) w = some (1, ys)) (o : Ak g b2 ys us) (hyl : ys.length = z + 1) (hN : N ≤ hn g .mk) (hlo : ∀ b ∈ b2, N ≤ b ∧ b < hn g .mk) (hnd : b2.Nodup) (hdj : ∀ b ∈ bs, b ∉ b2) (hdv : ∀ b, AP v = some b → b ∉ b2) (hn0 : n ≤ 1048576)
  (hk : ∀ g', Gr N g' (.raw (.slice (some ⟨hn g .mk, 0, none⟩) (n + 1) (n + 1))) (z + 1) (n + 1) (ts ++ us) (bs ++ b2) → hn g' .mk = hn g .mk + 1 → (∀ b, b < hn g .mk → AP v ≠ some b → hg g' b .mk = hg g b .mk) → kz K (.raw (.slice (some ⟨hn g .mk, 0, none⟩) (n + 1) (n + 1))) g' .mk) :
  az (EN P g .append [t, u] [v, w] .mk) K .mk := by
 obtain ⟨cs, ow, oc, bl, dv⟩ := gr
 have hlen := ow.1
 have hok := Ak.okx o
 refine CJ he hz hl hu ow hs hyl hok ?_ ?_
 ·have : Go.Ai.most = 1099511627776 := rfl
  have : (n + 1) * (y + 1) ≤ 1048577 * 1001 := Nat.mul_le_mul (by omega) (by omega)
  omega
 intro g' h1 h2 h3
 have hlt : ∀ b ∈ bs ++ b2, N ≤ b ∧ b < hn g .mk := fun b hb => (List.mem_append.1 hb).elim (fun h => bl.2 b h) (fun h => hlo b h)
 have hnv : ∀ b ∈ bs ++ b2, AP v ≠ some b := fun b hb e => (List.mem_append.1 hb).elim (fun h => dv b e h) (fun h => hdv b e h)
 refine hk g' ⟨cs ++ ys, ⟨by simp [hlen, hyl, Nat.add_mul], .inr ⟨_, rfl, hN, by omega, h1⟩⟩, (oc.append o).frame fun x hx => h3 x (hlt x hx).2 (hnv x hx), ⟨List.nodup_append.2 ⟨bl.1, hnd, fun x hx y hy2 e => hdj x hx (e ▸ hy2)⟩, fun x hx => ⟨(hlt x hx).1, by have := (hlt x hx).2; omega⟩⟩, fun b e hb => ?_⟩ h2 h3
 simp only [AP, Option.some.injEq] at e
 have := (hlt b hb).2
 omega
theorem Gr.tree2 {N : Nat} {g : H2} {v : X} {z n : Nat} {es : List (List T)} {bs : List Nat} (gr : Gr N g v z n es.flatten bs) (hn' : n = es.length) (hz : ∀ e ∈ es, e.length = z) : ∃ bs', OT g bs' v (.l z es) ∧ bs'.Nodup ∧ ∀ x ∈ bs', x ∈ bs ∨ AP v = some x := by
  subst hn'
  obtain ⟨cs, ⟨hl, ho⟩, t, b, d⟩ := gr
  rcases ho with ⟨rfl, h0⟩ | ⟨q, rfl, h1, h2, h3⟩
  · have : es = [] := List.eq_nil_of_length_eq_zero h0
    subst this
    exact ⟨[], .nil, .nil, fun x hx => by cases hx⟩
  · exact ⟨q :: bs, .row h3 hl rfl hz t, List.nodup_cons.2 ⟨d q rfl, b.1⟩, fun x hx => by
      rcases List.mem_cons.1 hx with rfl | hx
      · exact .inr rfl
      · exact .inl hx⟩
theorem T8 {f : AQ} {n : Int} {l : List Int} {g : H2} (hl : Ay 10000000 l) (hn0 : l.length ≤ 1048576) : PW Tryz.prog W0 137 [.raw (.int .i64 n), .sl f 1 (ints l)] g (fun y => y = .raw (.int .i64 (Au n l))) :=
 A7.mono (KC hl hn0) fun y g' ⟨h1, h2⟩ => by subst h2; exact ⟨rfl, Nat.le_refl _, h1⟩
theorem E6 {g : H2} {K : KT} {z : Nat} {cs : List X} (hz : cs.length = z)
  (hk : ∀ w g', (∀ g'' : H2, hg g'' (hn g .mk) .mk = hg g' (hn g .mk) .mk → E0 g'' z w = some (1, cs)) → g.le g' → hn g' .mk = hn g .mk + 1 → kz K w g' .mk) : SS 1 z cs (CR cs) g K .mk := by
 cases ht : CR cs with
 | none =>
  rw [X3]
  refine hk _ _ (fun g'' h => ?_) (le_push (H2.le.refl _)) (by rw [AB])
  rw [Ap, show (hn g .mk == hn g .mk) = true by simp, YJ] at h
  have h5 : g''.get (hn g .mk) = some ⟨z, cs⟩ := h
  have h6 : g''.get g.n = some ⟨z, cs⟩ := h
  show E0 g'' z (.raw (.slice (some ⟨g.n, 0, none⟩) 1 1)) = some (1, cs)
  simp only [E0, h6, Gi (show cs.length = 1 * z by omega), Option.map_some]
 | some ts =>
  rw [Xi]
  have hl : ts.length = z := by rw [← hz]; exact (GC ht).1
  refine hk _ _ (fun g'' _ => ?_) (AK (H2.le.refl _) (Nat.le_succ _)) (by rw [AF])
  simp only [E0, if_true]
  have e : chunk z (0 + 1) ts = [ts] := by simp only [chunk, List.take_of_length_le (Nat.le_of_eq hl)]
  rw [e]
  have := Ld (b := hn g .mk) (n := 0 + 1) (z := z) (cs := cs) (l := cs) (j := 0) ht fun q x hq => by rw [Nat.zero_add]; exact hq
  simp only [CC, this, List.append_nil, List.length_cons, List.length_nil]
def PN (N : Nat) (g : H2) (k v : X) (n : Nat) (c : BS) (bs bs' : List Nat) : Prop :=
 Gr N g k 1 n (c.keys.map CL).flatten bs ∧ Gr N g v 1 n (c.values.map CL).flatten bs' ∧ (∀ b ∈ bs, b ∉ bs') ∧ (∀ b, AP k = some b → b ∉ bs' ∧ AP v ≠ some b) ∧ ∀ b, AP v = some b → b ∉ bs
theorem PN.nil {N : Nat} {g : H2} : PN N g (.raw (.slice none 0 0)) (.raw (.slice none 0 0)) 0 ⟨[], []⟩ [] [] := by
 refine And.intro Gr.nil (And.intro Gr.nil (And.intro ?_ (And.intro ?_ ?_)))
 ·intro b h; cases h
 ·intro b h; cases h
 ·intro b h; cases h
theorem PN.on {N : Nat} {g g' : H2} {k v : X} {n : Nat} {c : BS} {bs bs' : List Nat} {p : Option Nat} {r s : Int} (t : PN N g k v n c bs bs') (l : AV p g g') (m : Mt p g r s) (hN : ∀ b, p = some b → b < N) : PN N g' k v n c bs bs' := ⟨t.1.on l m hN, t.2.1.on l m hN, t.2.2⟩
end Go.Bi
end
section
set_option maxRecDepth 20000
namespace Go.Bi
open Go.Proofs
open Go.Ai (wrap_i64 wrap_u64 wrap_u8 Heap)
variable {W0 : World} {P : Program}
set_option maxHeartbeats 4000000
theorem aG {f f' : AQ} {sh : List Int} {vs : List (List Int)} {n : Nat} {g : H2} (hl : vs.length = sh.length) (h1 : 1 ≤ sh.length) (h32 : sh.length ≤ 32) (hs : allI sh 0 256 = true) (hn1 : 1 ≤ n) (hn8 : n ≤ 8) (hv : KN n vs) : TI Tryz.prog W0 210 [.sl f 1 (ints sh), .sl f' 1 (AE vs)] g (Mj sh vs n) := by
 refine AH [[0, 1], [0, 1], [0, 1, 6], [0, 1, 6, 7], [0, 1, 6, 7, 8], [0, 1, 6, 7, 8], [0, 1, 6, 8], [0, 1, 6, 7], [6], [0, 1, 6], [0, 1, 6, 9], [0, 1, 6, 9], [0, 1, 6, 9], [0, 1, 6, 9, 10], [0, 1, 6, 9, 10, 11], [0, 1, 6, 9, 10, 11], [0, 1, 6, 9, 10, 11], [0, 1, 6, 9, 10], [6]] Tryz.func210 rfl (rs := [.tmp 4, .tmp 5]) rfl rfl ?_
 intro wf
 have hsa := B3 hs (n := 256) (by omega) (by omega)
 have e1 : decide ((vs.length : Int) = (sh.length : Int)) = true := decide_eq_true (by omega)
 have v0 := Du hv 0 (by omega)
 have q0 : 0 < vs.length := by omega
 have i0 : (0 : Int) ≤ 0 := by omega
 refine zr ?_
 refine AA Ab ?_
 rintro _ _ ⟨rfl, rfl⟩
 rw [A8 (by omega) (by omega)]
 refine A1 e1 ?_
 refine AD (BB (by omega)) ?_
 rintro _ n1 hn1 rfl
 simp only [AB] at hn1
 rw [hs]
 refine zr ?_
 refine AJ [0, 1, 6] (fun m e h' => ∃ (i : Nat), (g.push ⟨1, []⟩).le h' ∧ look e 8 .mk = .raw (.int .i64 (i : Nat)) ∧ look e 7 .mk = .raw (.bool true) ∧ m + i = vs.length) vs.length ?_ ?_
 ·exact ⟨0, AK (H2.le.refl _) hn1, AL, AL, by omega⟩
 rintro m0 e0 h0 hks0 ⟨i, hle0, ei0, et0, hm0⟩
 simp -dsimp -implicitDefEqProofs only [go_sem, sQ1] at hks0
 by_cases q1 : (i : Int) < (vs.length : Int)
 ·have q2 : i < vs.length := by omega
  have w1 := BE i (by omega)
  have vi := Du hv i q2
  have e2 : decide ((((vs.getD i default).length : Nat) : Int) = ((n : Nat) : Int)) = true := decide_eq_true (by omega)
  refine Cu hks0 ei0 et0 q1 ?_
  refine AO [(0, []), (1, []), (2, []), (3, []), (4, []), (5, []), (6, []), (7, []), (8, []), (9, []), (10, []), (11, []), (12, []), (13, []), (14, []), (15, []), (16, []), (17, [])] (by kernel_rfl) ?_
  refine A1 q2 ?_
  refine AD (Oi vi.2 (by omega) (by omega)) ?_
  rintro _ n2 hn2 rfl
  try (rw [kq]; refine ⟨AL, ?_⟩)
  repeat (first | rw [ko] | rw [kr] | simp -dsimp -implicitDefEqProofs only [go_sem, sQ1, q2, q0, i0, Int.toNat_zero, vi.1, v0.1, w1, decide_true])
  exact AI (m0 - 1) (by omega) AL ⟨i + 1, AK hle0 hn2, AL, AL, by omega⟩
 refine Cu hks0 ei0 et0 q1 ?_
 refine AJ [0, 1] (fun m e h' => ∃ (k : Nat) (v : X), g.le h' ∧ hn g .mk ≤ hn h' .mk ∧ look e 9 .mk = .raw (.int .i64 (k : Nat)) ∧ look e 6 .mk = v ∧ m + k = n ∧ Al (hn g .mk) h' v ((Mj sh vs n).take k)) n ?_ ?_
 ·exact ⟨0, _, (le_push (H2.le.refl _)).trans hle0, ((le_push (H2.le.refl _)).trans hle0).1, AL, by simp -dsimp -implicitDefEqProofs only [go_sem] <;> rfl, by omega, Own.keep (Own.new (Nat.le_refl _) rfl) hle0⟩
 rintro m e h' hks ⟨k, v, hle, nn, ek, ev, hm, ow⟩
 simp -dsimp -implicitDefEqProofs only [go_sem, sQ1] at hks
 have c0 := AT ow
 by_cases q1 : (k : Int) < (n : Int)
 rotate_left
 ·repeat (first | rw [ko] | rw [kr] | simp -dsimp -implicitDefEqProofs only [go_sem, sQ1, hks, ek, ev, q1, c0, q0, i0, Int.toNat_zero, v0.1])
  have hi : k = (Mj sh vs n).length := by rw [HA]; omega
  rw [hi, List.take_length] at ow
  exact ⟨hle, v, rfl, ow⟩
 have q2 : k < n := by omega
 repeat (first | rw [ko] | rw [kr] | simp -dsimp -implicitDefEqProofs only [go_sem, sQ1, hks, ek, ev, q1, q0, i0, Int.toNat_zero, v0.1])
 refine AJ [0, 1, 6, 9] (fun m2 e2 h2 => ∃ (i : Nat), h2 = h' ∧ look e2 11 .mk = .raw (.int .i64 (i : Nat)) ∧ look e2 10 .mk = .raw (.int .i64 (Aq (fun i => sh.getD i default * (vs.getD i default).getD k default) i)) ∧ m2 + i = sh.length) sh.length ?_ ?_
 ·exact ⟨0, rfl, AL, by simp -dsimp -implicitDefEqProofs only [go_sem] <;> rfl, by omega⟩
 rintro m2 e2 h2 hks2 ⟨i, rfl, ei, es, hm2⟩
 simp -dsimp -implicitDefEqProofs only [go_sem, sQ1] at hks2
 by_cases p1 : (i : Int) < (vs.length : Int)
 ·have p2 : i < sh.length := by omega
  have p3 : i < vs.length := by omega
  have vi := Du hv i p3
  have p4 : k < (vs.getD i default).length := by omega
  have w1 := BE i (by omega)
  have a := SZ hsa vi.2 i k
  have b := Oa hsa (fun v hv2 => (hv v hv2).2) k (i + 1)
  have w3 := AX (x := sh.getD i default * (vs.getD i default).getD k default) (by omega)
  have w2 : IntKind.i64.wrap (Aq (fun i => sh.getD i default * (vs.getD i default).getD k default) i + sh.getD i default * (vs.getD i default).getD k default) = Aq (fun i => sh.getD i default * (vs.getD i default).getD k default) (i + 1) := AX (x := Aq (fun i => sh.getD i default * (vs.getD i default).getD k default) (i + 1)) (by omega)
  refine Cu hks2 ei es p1 ?_
  refine AO [(0, []), (1, []), (2, []), (3, []), (4, []), (5, []), (6, []), (7, []), (8, []), (9, []), (10, []), (11, []), (12, []), (13, []), (14, [])] (by kernel_rfl) ?_
  refine PY p2 p3 p4 w1 w3 w2 ?_
  exact AI (m2 - 1) (by omega) AL ⟨i + 1, rfl, AL, AL, by omega⟩
 refine Cu hks2 ei es p1 ?_
 obtain rfl : i = sh.length := by omega
 have w1 := BE k (by omega)
 refine AA (DU (by omega) (by have := Oa hsa (fun v hv2 => (hv v hv2).2) k sh.length; omega)) ?_
 rintro _ _ ⟨rfl, rfl⟩
 refine zr ?_
 refine AA (CS (by omega) (by omega)) ?_
 rintro _ _ ⟨rfl, rfl⟩
 refine zr ?_
 refine GS (P := Tryz.prog) (D := fun _ => none) Go.Ai.ty_el25 Go.Ai.ty_zr3 Go.Ai.ty_cl25 (by omega) ow hle (by omega) nn (by rw [List.length_take, HA]; omega) ?_
 intro v4 g4 ow4 le4 nn4 on4
 refine A1 w1 ?_
 exact AI (m - 1) (by omega) AL ⟨k + 1, v4, le4, nn4, AL, AL, by omega, (B0 q2).symm ▸ ow4⟩
theorem Sr {f f2 f3 : AQ} {q : List Int} {ks vs : List (List Int)} {g : H2} (hq : Ay 127 q) (h1 : 1 ≤ q.length) (h8 : q.length ≤ 8) (hk : KN q.length ks) (hv : KN q.length vs) (hl : vs.length = ks.length) (hk1 : 1 ≤ ks.length) (hk32 : ks.length ≤ 32) : TI Tryz.prog W0 162 [.sl f 1 (ints q), .sl f2 1 (AE ks), .sl f3 1 (AE vs)] g (Hl q ks vs) := by
 have sl : (ks.map (BI q)).length = ks.length := List.length_map _
 have sa : Ay 100000 (ks.map (BI q)) := fun y hy => by
  obtain ⟨k, hk0, rfl⟩ := List.mem_map.1 hy
  have := Ht hq (hk k hk0).2 h8
  omega
 refine AH [[0, 1, 2], [0, 1, 2], [0, 1, 2, 8], [0, 1, 2, 8, 9], [0, 1, 2, 8, 9], [0, 1, 2, 8, 9], [0, 1, 2, 8, 9, 10, 11], [], [0, 1, 2, 8, 9, 10], [1, 2, 8], [1, 2, 8, 12, 13], [], [2, 12]] Tryz.func162 rfl (rs := [.tmp 6, .tmp 7]) rfl rfl ?_
 intro wf
 have k32 : (ks.length : Int) ≤ 32 := by omega
 refine zr ?_
 refine AJ [0, 1, 2] (fun m e h' => ∃ (i : Nat) (v : X), g.le h' ∧ hn g .mk ≤ hn h' .mk ∧ look e 9 .mk = .raw (.int .i64 (i : Nat)) ∧ look e 8 .mk = v ∧ m + i = ks.length ∧ Al (hn g .mk) h' v ((ks.map (BI q)).take i)) ks.length ?_ ?_
 ·exact ⟨0, _, le_push (H2.le.refl _), by simp only [AB]; omega, AL, by simp -dsimp -implicitDefEqProofs only [go_sem] <;> rfl, by omega, Own.new (Nat.le_refl _) rfl⟩
 rintro m e h' hks ⟨i, v, hle, nn, ei, ev, hm, ow⟩
 simp -dsimp -implicitDefEqProofs only [go_sem, sQ1] at hks
 have c0 := AT ow
 by_cases q1 : (i : Int) < (ks.length : Int)
 ·have q2 : i < ks.length := by omega
  have w1 := BE i (by omega)
  have hki := hk _ (BG q2)
  refine PY hks ei ev q1 q2 k32 ?_
  refine AD (Na hq hki.2 h1 h8 hki.1) ?_
  rintro _ n1 hn1 rfl
  refine zr ?_
  refine GS (P := Tryz.prog) (D := fun _ => none) Go.Ai.ty_el25 Go.Ai.ty_zr3 Go.Ai.ty_cl25 (by omega) (Own.keep ow (AK (H2.le.refl _) hn1)) (AK hle hn1) (by omega) (by rw [AF]; omega) (by rw [List.length_take]; omega) ?_
  intro v4 g4 ow4 le4 nn4 on4
  refine A1 w1 ?_
  exact AI (m - 1) (by omega) AL ⟨i + 1, v4, le4, nn4, AL, AL, by omega, (BL q2).symm ▸ ow4⟩
 have hi : i = (ks.map (BI q)).length := by omega
 rw [hi, List.take_length] at ow
 obtain ⟨b, rfl, hb1, hb2, hb3⟩ := I3 ow (by omega)
 obtain ⟨fz, hfz⟩ := ow.lent
 rw [sl] at ev
 rw [sl] at hfz
 have e3 : decide (¬ ((ks.length : Int) = (ks.length : Int))) = false := decide_eq_false (fun h => h rfl)
 refine Cu hks ei ev q1 ?_
 refine AD (PW.lend (.cons hfz .nil) (TI.pw (Q9 (l := ks.map (BI q)) (by omega) (by omega) sa)) (fun y hy => hy.2)) ?_
 rintro _ n2 hn2 ⟨⟨f5, rfl⟩, _⟩
 refine zr ?_
 refine AA (aG (sh := Bp (ks.map (BI q))) (n := q.length) (by rw [BP]; omega) (by rw [BP]; omega) (by rw [BP]; omega) Ln h1 h8 hv) ?_
 rintro _ g3 ⟨l3, v, rfl, ow3⟩
 have c3 := AT ow3
 simp only [AF] at ow3
 refine A1 c3 ?_
 exact ⟨(AK hle hn2).trans l3, v, rfl, ow3.wide (by omega)⟩
end Go.Bi
end
section
set_option maxRecDepth 20000
namespace Go.Bi
open Go.Proofs
open Go.Ai (wrap_i64 wrap_u64 wrap_u8 Heap)
variable {W0 : World} {P : Program}
set_option maxHeartbeats 4000000
theorem ZA {F : Nat → AQ} {p : At} {g : H2} (hp : G4 p = true) : TI Tryz.prog W0 207 [.st (JE F p)] g (Dz p) := by
 obtain ⟨hsh, h8, h3⟩ := W8 hp
 have h3a := B3 h3 (n := 15) (by omega) (by omega)
 obtain ⟨sh, hs⟩ := Int.eq_ofNat_of_zero_le hsh.1
 refine AH [[0], [1], [1, 4], [4], [1, 4], [1, 4, 5], [1, 4, 5], [1, 4, 5], [4]] Tryz.func207 rfl (rs := [.tmp 2, .tmp 3]) rfl rfl ?_
 intro wf
 have hne : (hn g .mk == hn g .mk + 1) = false := by simp
 refine DC hne ?_
 refine AA Ab ?_
 rintro _ _ ⟨rfl, rfl⟩
 rw [A8 hsh.1 hsh.2]
 refine DC hne ?_
 refine AA Ab ?_
 rintro _ _ ⟨rfl, rfl⟩
 rw [A8 (by omega) (by omega)]
 refine DC hne ?_
 refine AD (BB (by omega)) ?_
 rintro _ n1 hn1 rfl
 simp only [AB] at hn1
 rw [h3]
 refine zh ?_
 refine AJ [1] (fun m e h' => ∃ (i : Nat) (v : X), look e 5 .mk = .raw (.int .i64 (i : Nat)) ∧ look e 4 .mk = v ∧ m + i = p.values.length ∧ Al (hn g .mk + 1) h' v ((Dz p).take i) ∧ g.le h' ∧ hn g .mk + 1 ≤ hn h' .mk ∧ hg h' (hn g .mk) .mk = some ⟨2, [.raw (.int .i64 p.shift), .sl (F 1) 1 (ints p.values)]⟩) p.values.length ?_ ?_
 ·refine ⟨0, _, AL, by simp -dsimp -implicitDefEqProofs only [go_sem] <;> rfl, by omega, ?_, AK (le_push (le_push (H2.le.refl _))) (by simp only [AB]; omega), by simp only [AF]; omega, by simp -dsimp -implicitDefEqProofs only [go_sem, hne, Av]⟩
  exact Own.keep (Own.new (g := g.push _) (by rw [AB]; exact Nat.le_refl _) rfl) (AK (H2.le.refl _) (by simp only [AB]; omega))
 rintro m e h' hks ⟨i, v, e5, e4, hm, ow, hle, hn0, row⟩
 simp -dsimp -implicitDefEqProofs only [go_sem] at hks
 by_cases q1 : (i : Int) < (p.values.length : Int)
 ·have q2 : i < p.values.length := by omega
  have w1 := BE i (by omega)
  have hvi := Ag (by omega) h3a i
  have hp2 := KD (m := sh) (by omega)
  have hm2 := Br (a := 15) (b := 16777216) hvi ⟨by omega, hp2.2⟩
  have w2 := AX (x := p.values.getD i default * 2 ^ sh) (by omega)
  repeat (first | rw [ko] | rw [kr] | simp -dsimp -implicitDefEqProofs only [go_sem, sQ1, hks, e5, e4, q1, row])
  refine AO [(0, []), (1, []), (2, []), (3, []), (4, []), (5, []), (6, []), (7, []), (8, [2, 5]), (9, []), (10, []), (11, []), (12, []), (13, [])] (by kernel_rfl) ?_
  repeat (first | rw [ko] | rw [kr] | simp -dsimp -implicitDefEqProofs only [go_sem, sQ1, q2, row, hs])
  refine AA (OI (by omega)) ?_
  rintro _ _ ⟨rfl, rfl⟩
  repeat (first | rw [ko] | rw [kr] | simp -dsimp -implicitDefEqProofs only [go_sem, sQ1, row, hs, w2])
  refine AA (CS (by omega) (by omega)) ?_
  rintro _ _ ⟨rfl, rfl⟩
  refine zr ?_
  refine GS (P := Tryz.prog) (D := fun _ => none) Go.Ai.ty_el25 Go.Ai.ty_zr3 Go.Ai.ty_cl25 (by omega) ow hle (by omega) hn0 (by rw [List.length_take]; omega) ?_
  intro v4 g4 ow4 le4 nn4 on4
  have row4 := (on4 (hn g .mk) (by omega)).trans row
  have e6 : (Dz p).take (i + 1) = (Dz p).take i ++ [Gz (p.values.getD i default * 2 ^ sh) 127] := by
   have := BL (f := fun n => Gz (n * 2 ^ p.shift.toNat) 127) q2
   rw [show p.shift.toNat = sh by omega] at this
   unfold Dz
   rw [show p.shift.toNat = sh by omega]
   exact this
  refine A1 w1 ?_
  exact AI (m - 1) (by omega) AL ⟨i + 1, v4, AL, AL, by omega, e6 ▸ ow4, le4, nn4, row4⟩
 ·have c1 := (AT ow).2.2
  have hi : i = (Dz p).length := by rw [Jr]; omega
  repeat (first | rw [ko] | rw [kr] | simp -dsimp -implicitDefEqProofs only [go_sem, sQ1, hks, e5, e4, q1, row, c1])
  rw [hi, List.take_length] at ow
  exact ⟨hle, v, rfl, ow.wide (by omega)⟩
theorem Yg {x : Int} {g : H2} (hx : -127 ≤ x ∧ x ≤ 127) : A7 Tryz.prog W0 164 [.raw (.int .i64 x)] g (fun v g' => v = .raw (.int .i64 (C6 x)) ∧ g' = g) := by
 refine AH [[0], [0], [], [0]] Tryz.func164 rfl (rs := [.tmp 2]) rfl rfl ?_
 intro wf
 refine zr ?_
 refine AA Ab ?_
 rintro _ g ⟨rfl, rfl⟩
 rw [A8 hx.1 hx.2]
 refine zr ?_
 refine AA (CS (by omega) (by omega)) ?_
 rintro _ g ⟨rfl, rfl⟩
 have hc := EY (x := x) (m := 128) (by omega)
 have w1 := AX (x := 128 + Gz x 128) (by omega)
 have b := Br hx (show -256 ≤ 128 + Gz x 128 ∧ 128 + Gz x 128 ≤ 256 by omega)
 have w2 := AX (x := x * (128 + Gz x 128)) (by omega)
 refine C5 w1 w2 ?_
 refine AA (DU (by omega) (by omega)) ?_
 rintro _ g ⟨rfl, rfl⟩
 refine zr ?_
 exact ⟨rfl, rfl⟩
theorem TS {f f' : AQ} {x y : List Int} {g : H2} (hx : Ay 1000 x) (hy : Ay 1000 y) (hl : y.length = x.length) (h8 : x.length ≤ 8) : TI Tryz.prog W0 163 [.sl f 1 (ints x), .sl f' 1 (ints y)] g (Jd x y) := by
 refine AH [[0, 1], [0, 1], [0, 1, 6], [6], [0, 1, 6], [0, 1, 6, 7], [0, 1, 6, 7], [0, 1, 6, 7], [6]] Tryz.func163 rfl (rs := [.tmp 4, .tmp 5]) rfl rfl ?_
 intro wf
 have hle : (x.length : Int) = (y.length : Int) := by omega
 have e1 : decide (¬ (x.length : Int) = (y.length : Int)) = false := decide_eq_false (fun h => h hle)
 have e2 : ¬ (x.length : Int) > 8 := by omega
 refine C5 e1 e2 ?_
 refine AD (BB (by omega)) ?_
 rintro _ n1 hn1 rfl
 rw [BM hx (by omega)]
 refine zr ?_
 refine AD (BB (by omega)) ?_
 rintro _ n2 hn2 rfl
 rw [BM hy (by omega)]
 simp only [AF, AB] at hn1 hn2
 have e3 : hn g .mk + 1 ≤ n2 := by omega
 refine zr ?_
 refine AJ [0, 1] (fun m e h' => ∃ (i : Nat) (v : X), g.le h' ∧ hn g .mk ≤ hn h' .mk ∧ look e 7 .mk = .raw (.int .i64 (i : Nat)) ∧ look e 6 .mk = v ∧ m + i = x.length ∧ Al (hn g .mk) h' v ((Jd x y).take i)) x.length ?_ ?_
 ·exact ⟨0, _, by first | exact AK (AK (le_push (H2.le.refl _)) (by simp only [AB]; omega)) (by simp only [AF]; omega) | exact AK (le_push (H2.le.refl _)) (by simp only [AB]; omega), by simp only [AF]; omega, AL, by simp -dsimp -implicitDefEqProofs only [go_sem] <;> rfl, by omega, by first | exact Own.keep (Own.new (Nat.le_refl _) rfl) (AK (AK (H2.le.refl _) (by simp only [AB]; omega)) (by simp only [AF]; omega)) | exact Own.keep (Own.new (Nat.le_refl _) rfl) (AK (H2.le.refl _) (by simp only [AB]; omega))⟩
 rintro m e h' hks ⟨i, v, hle, nn, ei, ev, hm, ow⟩
 simp -dsimp -implicitDefEqProofs only [go_sem, sQ1] at hks
 have c0 := AT ow
 by_cases q1 : (i : Int) < (x.length : Int)
 ·have q2 : i < x.length := by omega
  have q3 : i < y.length := by omega
  have w1 := BE i (by omega)
  have a := Ag (by omega) hx i
  have b := Ag (by omega) hy i
  have w3 := AX (x := x.getD i default + y.getD i default) (by omega)
  refine Cu hks ei ev q1 ?_
  refine AO [(0, []), (1, []), (2, []), (3, []), (4, []), (5, []), (6, []), (7, []), (8, []), (9, []), (10, []), (11, []), (12, []), (13, [])] (by kernel_rfl) ?_
  refine DH q2 q3 w3 ?_
  refine AA (CS (by omega) (by omega)) ?_
  rintro _ _ ⟨rfl, rfl⟩
  refine zr ?_
  refine GS (P := Tryz.prog) (D := fun _ => none) Go.Ai.ty_el25 Go.Ai.ty_zr3 Go.Ai.ty_cl25 (by omega) ow hle (by omega) nn (by rw [List.length_take]; omega) ?_
  intro v4 g4 ow4 le4 nn4 on4
  refine A1 w1 ?_
  exact AI (m - 1) (by omega) AL ⟨i + 1, v4, le4, nn4, AL, AL, by omega, (B0 q2).symm ▸ ow4⟩
 ·refine FD hks ei ev q1 c0 ?_
  have hi : i = (Jd x y).length := by rw [Hb]; omega
  rw [hi, List.take_length] at ow
  exact ⟨hle, v, rfl, ow⟩
theorem LG {f : AQ} {ks : List (List At)} {h : Nat} {g : H2} (hk : ∀ i, i < ks.length → h < (ks.getD i default).length ∧ G4 ((ks.getD i default).getD h default) = true) (hn0 : ks.length ≤ 1000) : PW Tryz.prog W0 159 [.sl f 1 (An ks), .raw (.int .i64 h)] g (fun y => ∃ f, y = .sl f 1 (AE (Aa ks h))) := by
 refine (PW.of (q := fun _ => True) (Q := fun y => ∃ f, y = .sl f 1 (AE (Aa ks h))) ?_).mono fun y h => h.1
 refine AH [[0, 1], [0, 1], [0, 1, 5], [0, 1, 5, 6], [0, 1, 5, 6], [0, 1, 5, 6], [0, 1, 5, 6, 7], [5]] Tryz.func159 rfl (rs := [.tmp 4]) rfl rfl ?_
 intro wf
 refine zr ?_
 refine AJ [0, 1] (fun m e h' => ∃ (i : Nat) (v : X) (cs : List X), g.le h' ∧ hn g .mk ≤ hn h' .mk ∧ look e 6 .mk = .raw (.int .i64 (i : Nat)) ∧ look e 5 .mk = v ∧ m + i = ks.length ∧ Own (hn g .mk) h' v 1 ((Aa ks h).take i).length cs ∧ C9 Di 1 cs ((Aa ks h).take i)) ks.length ?_ ?_
 ·exact ⟨0, _, [], le_push (H2.le.refl _), by simp only [AB]; omega, AL, by simp -dsimp -implicitDefEqProofs only [go_sem] <;> rfl, by omega, Own.new (Nat.le_refl _) rfl, .nil⟩
 rintro m e h' hks ⟨i, v, cs, hle, nn, ei, ev, hm, ow, hc⟩
 simp -dsimp -implicitDefEqProofs only [go_sem, sQ1] at hks
 have c0 := D8 ow
 by_cases q1 : (i : Int) < (ks.length : Int)
 ·have q2 : i < ks.length := by omega
  obtain ⟨q3, q4⟩ := hk i q2
  have w1 := BE i (by omega)
  refine PY hks ei ev q1 q2 q3 ?_
  refine AD (TI.pw (ZA (F := fun j => under (under (under (under f i) 0) h) j) q4)) ?_
  rintro _ n1 hn1 ⟨⟨f2, rfl⟩, _⟩
  refine zr ?_
  refine V6 (P := Tryz.prog) (a := Dz ((ks.getD i default).getD h default)) VX Go.Ai.ty_el23 Go.Ai.ty_zr25 rfl Go.Ai.ty_cl23 (by omega) (Own.keep ow (AK (H2.le.refl _) hn1)) hc (by rw [AF]; omega) (by rw [List.length_take]; omega) ?_
  intro v4 g4 cs4 ow4 hc4 nn4 on4
  have e4 : (Aa ks h).take (i + 1) = (Aa ks h).take i ++ [Dz ((ks.getD i default).getD h default)] := BL q2
  rw [← e4] at ow4 hc4
  refine A1 w1 ?_
  exact AI (m - 1) (by omega) AL ⟨i + 1, v4, cs4, Iv (AK hle hn1) (Nat.le_refl _) nn4 on4, nn4, AL, AL, by omega, ow4, hc4⟩
 ·refine Cu hks ei ev q1 ?_
  have hi : i = (Aa ks h).length := by unfold Aa; rw [List.length_map]; omega
  rw [hi, List.take_length] at ow hc
  obtain ⟨f, hf⟩ := Gf VX (p := fun b => hn g .mk ≤ b) ow hc (fun b hb => hb)
  exact ⟨hle, _, hf, f, rfl⟩
theorem UO {f : AQ} {x : List Int} {n size : Nat} {g : H2} (hn2 : n = 1 ∨ n = 2) (hs : 1 ≤ size) (hl : x.length = n * size) (h8 : x.length ≤ 8) : PW Tryz.prog W0 157 [.sl f 1 (ints x), .raw (.int .i64 n)] g (fun y => ∃ f, y = .tp [.sl f 1 (AE (Bq x size n)), .raw (.bool true)]) := by
 refine (PW.of (q := fun _ => True) (Q := fun y => ∃ f, y = .tp [.sl f 1 (AE (Bq x size n)), .raw (.bool true)]) ?_).mono fun y h => h.1
 refine AH [[0, 1], [0, 1], [0, 1, 6], [6], [0, 1, 6], [0, 1, 6, 7], [0, 1, 6, 7, 8], [0, 1, 6, 7, 8], [0, 1, 6, 7, 8], [6]] Tryz.func157 rfl (rs := [.tmp 4, .tmp 5]) rfl rfl ?_
 intro wf
 have z1 : decide ((x.length : Int) = 0) = false := decide_eq_false (by rcases hn2 with rfl | rfl <;> omega)
 have z2 : decide (¬ ((0 : Int) = 0)) = false := by decide
 have z3 : ((n : Int) == 0) = false := by rw [beq_eq_false_iff_ne]; omega
 have t2 : Int.tmod (x.length : Int) (n : Int) = 0 := by show ((x.length % n : Nat) : Int) = 0; rw [hl, Nat.mul_mod_right]; rfl
 have t3 : Int.tdiv (x.length : Int) (n : Int) = (size : Int) := by show ((x.length / n : Nat) : Int) = _; rw [hl, Nat.mul_div_cancel_left _ (by omega)]
 have hs8 : size ≤ 8 := by rcases hn2 with rfl | rfl <;> omega
 have t4 : IntKind.i64.wrap (size : Int) = (size : Int) := by rw [wrap_i64] <;> omega
 have key : (decide (¬ (n : Int) = 1) = false ∧ (0 : Int) ≤ 0) ∨ (decide (¬ (n : Int) = 1) = true ∧ decide (¬ (n : Int) = 2) = false) := by
  rcases hn2 with h | h
  ·exact .inl ⟨decide_eq_false (by omega), by omega⟩
  ·exact .inr ⟨decide_eq_true (by omega), decide_eq_false (by omega)⟩
 rcases key with ⟨k0, k1⟩ | ⟨k0, k1⟩
 all_goals
  refine Tk k0 k1 z1 z3 t2 t3 t4 ?_
  refine AJ [0, 1, 7] (fun m e h' => ∃ (k : Nat) (v : X) (bs : List Nat), g.le h' ∧ look e 8 .mk = .raw (.int .i64 (k : Nat)) ∧ look e 6 .mk = v ∧ m + k = n ∧ Gr (hn g .mk) h' v 1 k ((((Bq x size n).take k).map Di).flatten) bs) n ?_ ?_
  ·exact ⟨0, _, [], le_push (H2.le.refl _), AL, by simp -dsimp -implicitDefEqProofs only [go_sem] <;> rfl, by omega, Gr.empty (Nat.le_refl _)⟩
  rintro m e h' hks ⟨k, v, bs, hle, ei, ev, hm, gr⟩
  simp -dsimp -implicitDefEqProofs only [go_sem, sQ1] at hks
  have hv := Gr.cell gr
  by_cases q1 : (k : Int) < (n : Int)
  ·have q2 : k < n := by omega
   have hks8 : k * size + size ≤ x.length := by
    have := Nat.mul_le_mul_right size (show k + 1 ≤ n from q2)
    rw [Nat.succ_mul] at this
    omega
   have w1 := BE k (by omega)
   have m1 : (k : Int) * (size : Int) = ((k * size : Nat) : Int) := by norm_cast
   have m2 : IntKind.i64.wrap ((k * size : Nat) : Int) = ((k * size : Nat) : Int) := by rw [wrap_i64] <;> omega
   have m3 : IntKind.i64.wrap (((k * size : Nat) : Int) + (size : Int)) = ((k * size + size : Nat) : Int) := by rw [wrap_i64] <;> omega
   have q4 : ((k * size : Nat) : Int) ≤ ((k * size + size : Nat) : Int) := by omega
   have q5 : ((k * size + size : Nat) : Int) ≤ (x.length : Int) := by omega
   have q6 : (0 : Int) ≤ ((k * size + size : Nat) : Int) := by omega
   have q7 : k * size ≤ k * size + size := by omega
   have q8 : k * size + size - k * size = size := by omega
   have q9 : (0 : Int) ≤ ((k * size : Nat) : Int) := by omega
   have hh : (x.drop (k * size)).take size = A2 x size k := rfl
   have hhl : (A2 x size k).length ≤ 8 := by unfold A2; rw [List.length_take]; omega
   have hat := Eg (x := x) (s := size) q2
   repeat (first | rw [ko] | rw [kr] | simp -dsimp -implicitDefEqProofs only [go_sem, sQ1, sQ3, hks, ei, ev, q1, m1, m2, m3, q4, q5, q6, q8, q9, Int.toNat_natCast, hh])
   refine X7 (P := Tryz.prog) (N := hn h' .mk) (xs := []) Go.Ai.ty_el25 Go.Ai.ty_zr3 Go.Ai.ty_cl25 (by omega) (Own.new (Nat.le_refl _) rfl) (by simp only [AB]; omega) (by simp only [List.length_nil]; omega) ?_
   intro y g1 oy nn1 on1
   rw [List.nil_append] at oy
   have l1 : h'.le g1 := Iv (le_push (H2.le.refl h')) (Nat.le_refl _) nn1 on1
   obtain ⟨b1, ot, bl1⟩ := Al.tree oy
   have hy := OT.cell ot
   refine A1 hy ?_
   refine Hi (cs := [y]) rfl ?_
   intro w g2 hs2 l2
   have ll2 := l2.1
   have ll0 := hle.1
   have hvl := gr.lt
   refine zr ?_
   refine Ii (P := Tryz.prog) (N := hn g .mk) (us := [.l 1 (ints (A2 x size k))]) Go.Ai.ty_el23 Go.Ai.ty_zr25 rfl Go.Ai.ty_cl23 (by omega) (gr.keep (l1.trans l2)) hs2 (Ak.one (ot.keep l2 bl1)) rfl (by omega) (fun b hb => by have := bl1.2 b hb; omega) bl1.1 (fun b hb hb' => by have := gr.bl b hb; have := bl1.2 b hb'; omega) (fun b e hb' => by have := hvl b e; have := bl1.2 b hb'; omega) (by omega) ?_
   intro g3 gr3 n3 fr3
   refine A1 w1 ?_
   refine AI (m - 1) (by omega) AL ⟨k + 1, .raw (.slice (some ⟨hn g2 .mk, 0, none⟩) (k + 1) (k + 1)), bs ++ b1, ⟨by omega, fun c hc => (fr3 c (by omega) (fun e => by have := hvl c e; omega)).trans (((hle.trans l1).trans l2).2 c hc)⟩, AL, AL, by omega, ?_⟩
   rw [GM (E := Di) (l := Bq x size n) (by rw [CM]; exact q2), hat]
   exact gr3
  ·refine FD hks ei ev q1 hv ?_
   have hi : k = (Bq x size n).length := by rw [CM]; omega
   rw [hi, List.take_length] at gr
   obtain ⟨bs', o', bl'⟩ := Gr.tree (es := AE (Bq x size n)) gr (by rw [GO]) (fun e he => by obtain ⟨x, _, rfl⟩ := List.mem_map.1 he; rfl)
   obtain ⟨f2, hf2⟩ := o'.fz (p := fun b => hn g .mk ≤ b) (q := fun _ => True) fun b hb => (bl'.2 b hb).1
   exact ⟨hle, _, Z4 hf2 .raw, f2, rfl⟩
end Go.Bi
end
section
set_option maxRecDepth 20000
namespace Go.Bi
open Go.Proofs
open Go.Ai (wrap_i64 wrap_u64 wrap_u8 Heap)
variable {W0 : World} {P : Program}
set_option maxHeartbeats 4000000
theorem YO {f : AQ} {x : List Int} {sh : Nat} {g : H2} (hx : Ay 127 x) (h8 : x.length ≤ 8) (hsh : sh ≤ 4) : A7 Tryz.prog W0 206 [.sl f 1 (ints x), .raw (.int .i64 sh)] g (fun y g' => y = .raw (.bool (ET x sh)) ∧ g' = g) := by
 refine AH [[0, 1], [0, 1], [0, 1, 5], [0, 1, 5], [0, 1, 5], [], []] Tryz.func206 rfl (rs := [.tmp 4]) rfl rfl ?_
 intro wf
 refine zr ?_
 refine AJ [0, 1] (fun m e h' => ∃ (i : Nat), h' = g ∧ look e 5 .mk = .raw (.int .i64 (i : Nat)) ∧ ET (x.take i) sh = true ∧ m + i = x.length) x.length ?_ ?_
 ·exact ⟨0, rfl, AL, rfl, by omega⟩
 rintro m e h' hks ⟨i, rfl, ei, hb, hm⟩
 simp -dsimp -implicitDefEqProofs only [go_sem, sQ1] at hks
 by_cases q1 : (i : Int) < (x.length : Int)
 ·have q2 : i < x.length := by omega
  have w1 := BE i (by omega)
  have hxi := Ag (by omega) hx i
  have es := Nc (sh := sh) q2
  rw [hb, Bool.true_and] at es
  refine Cu hks ei q1 q2 ?_
  refine AA (K5 (by omega) (by omega) (by omega)) ?_
  rintro _ _ ⟨rfl, rfl⟩
  refine zr ?_
  refine AA Ab ?_
  rintro _ _ ⟨rfl, rfl⟩
  cases hi : inI (Gq (x.getD i default) 1 sh) (-15) 15
  ·refine zr ?_
   refine ⟨?_, rfl⟩
   have : ET x sh = false := by
    unfold ET
    rw [List.all_eq_false]
    exact ⟨x.getD i default, BG q2, by rw [hi]; decide⟩
   rw [this]
  ·rw [hi] at es
   refine A1 w1 ?_
   exact AI (m - 1) (by omega) AL ⟨i + 1, rfl, AL, es, by omega⟩
 ·refine DH hks ei q1 ?_
  have hi : i = x.length := by omega
  rw [hi, List.take_length] at hb
  exact ⟨by rw [hb], rfl⟩
theorem KR {f : AQ} {x : List Int} {g : H2} (hx : Ay 127 x) (h1 : 1 ≤ x.length) (h8 : x.length ≤ 8) : PW Tryz.prog W0 158 [.sl f 1 (ints x)] g (fun y => (∃ F, y = .tp [.st (JE F (EO x)), .raw (.bool true)]) ∧ Bu (fun b => hn g .mk ≤ b) y) := by
 refine (PW.of (q := fun b => hn g .mk ≤ b) (Q := fun y => ∃ F, y = .tp [.st (JE F (EO x)), .raw (.bool true)]) ?_).mono fun y ⟨h1, h2⟩ => ⟨h1, h2.imp fun b hb => hb.elim id id⟩
 refine AH [[0], [0, 2], [2], [0, 2], [0, 2, 4], [0, 2, 4], [0, 2, 4], [0, 2, 4, 5], [0, 2, 4, 5, 6], [0, 2, 4, 5, 6], [0, 2, 4, 5, 6], [2, 5]] Tryz.func158 rfl (rs := [.cell 2 196, .tmp 3]) rfl rfl ?_
 intro wf
 refine zh ?_
 refine AA Ab ?_
 rintro _ _ ⟨rfl, rfl⟩
 rw [A8 (by omega) (by omega)]
 refine zh ?_
 refine AD (BB (by omega)) ?_
 rintro _ n1 hn1 rfl
 rw [BM hx (by omega)]
 rw [AB] at hn1
 refine zh ?_
 refine AJ [0, 2] (fun m e h' => ∃ (sh : Nat), h' = (g.push ⟨2, [.raw (.int .i64 0), .raw (.slice none 0 0)]⟩).up n1 ∧ look e 4 .mk = .raw (.int .i64 (sh : Nat)) ∧ m + sh = 5 ∧ sh ≤ 4 ∧ ∀ j, j < sh → ET x j = false) 5 ?_ ?_
 ·exact ⟨0, rfl, AL, by omega, by omega, fun j hj => by omega⟩
 rintro m e h' hks ⟨sh, rfl, ei, hm, h4, hpre⟩
 simp -dsimp -implicitDefEqProofs only [go_sem] at hks
 have hne : (hn g .mk == n1) = false := Cw
 have w2 := BE sh (by omega)
 have key : ((ET x sh = true ∨ sh = 4) → Im x = sh) := fun hb => TT hpre h4 hb
 have fin : ∀ (G : H2) (v : X), Al (n1 + 1) G v (FE x sh) → Im x = sh → (ET x sh = true ∨ sh = 4) → ∃ y, Fz (fun b => hn g .mk ≤ b) (fun b => hn g .mk ≤ b) G (.tp [.st [.raw (.int .i64 (sh : Nat)), v], .raw (.bool true)]) y ∧ ∃ F, y = .tp [.st (JE F (EO x)), .raw (.bool true)] := fun G v ow hc _ => by
  obtain ⟨fv, hfv⟩ := ow.fz (p := fun b => hn g .mk ≤ b) (q := fun b => hn g .mk ≤ b) fun b hb => by omega
  refine ⟨_, Z4 (dD .raw hfv) .raw, fun _ => fv, ?_⟩
  unfold EO
  rw [hc]
  rfl
 by_cases h5 : (sh : Int) < 4
 ·refine DH hks ei h5 ?_
  refine AA (YO hx h8 h4) ?_
  rintro _ _ ⟨rfl, rfl⟩
  cases hb : ET x sh
  ·refine A1 w2 ?_
   exact AI (m - 1) (by omega) AL ⟨sh + 1, rfl, AL, by omega, by omega, fun j hj => by
    by_cases e : j = sh
    ·subst e; exact hb
    ·exact hpre j (by omega)⟩
  ·have hc := key (.inl hb)
   refine zh ?_
   refine AJ [0, 2, 4, 5] (fun m2 e2 h2 => ∃ (i : Nat) (v : X), g.le h2 ∧ n1 + 1 ≤ hn h2 .mk ∧ hg h2 n1 .mk = some ⟨2, [.raw (.int .i64 (sh : Nat)), v]⟩ ∧ hg h2 (hn g .mk) .mk = some ⟨2, [.raw (.int .i64 0), .raw (.slice none 0 0)]⟩ ∧ look e2 6 .mk = .raw (.int .i64 (i : Nat)) ∧ m2 + i = x.length ∧ Al (n1 + 1) h2 v ((FE x sh).take i)) x.length ?_ ?_
   ·exact ⟨0, _, CF (le_push (AK (le_push (H2.le.refl _)) (by rw [AB]; exact hn1))) (by omega), by simp only [AG, AB, AF]; omega, by simp -dsimp -implicitDefEqProofs only [go_sem, Av], by simp -dsimp -implicitDefEqProofs only [go_sem, Av, hne], AL, by omega, Own.nil⟩
   rintro m2 e2 h2 hks2 ⟨i, v, hle, nn, row, row0, ei2, hm2, ow⟩
   simp -dsimp -implicitDefEqProofs only [go_sem, sQ1] at hks2
   have c0 := AT ow
   by_cases q1 : (i : Int) < (x.length : Int)
   ·have q2 : i < x.length := by omega
    have w1 := BE i (by omega)
    have hxi := Ag (by omega) hx i
    have hne3 : (hn g .mk == n1) = false := hne
    refine DH hks2 ei2 q1 ?_
    refine AO [(0, []), (1, []), (2, []), (3, []), (4, []), (5, []), (6, []), (7, [1]), (8, [1]), (9, [1]), (10, []), (11, []), (12, [])] (by kernel_rfl) ?_
    repeat (first | rw [ko] | rw [kr] | simp -dsimp -implicitDefEqProofs only [go_sem, sQ1, q2, row])
    refine AA (K5 (by omega) (by omega) (by omega)) ?_
    rintro _ _ ⟨rfl, rfl⟩
    repeat (first | rw [ko] | rw [kr] | simp -dsimp -implicitDefEqProofs only [go_sem, sQ1, row])
    refine AA (CS (by omega) (by omega)) ?_
    rintro _ _ ⟨rfl, rfl⟩
    repeat (first | rw [ko] | rw [kr] | simp -dsimp -implicitDefEqProofs only [go_sem, sQ1, sQ3, row])
    refine GS (P := Tryz.prog) (D := fun _ => none) Go.Ai.ty_el25 Go.Ai.ty_zr3 Go.Ai.ty_cl25 (by omega) ow hle (by omega) nn (by rw [List.length_take]; omega) ?_
    intro v4 g4 ow4 le4 nn4 on4
    have c4 := AT ow4
    have row4 := (on4 n1 (by omega)).trans row
    have row04 := (on4 (hn g .mk) (by omega)).trans row0
    have e4 : (FE x sh).take (i + 1) = (FE x sh).take i ++ [Gz (Gq (x.getD i default) 1 sh) 15] := BL q2
    refine DH row4 c4 w1 ?_
    exact AI (m2 - 1) (by omega) AL ⟨i + 1, v4, CF le4 (by omega), by rw [AG]; exact nn4, by simp -dsimp -implicitDefEqProofs only [go_sem, Av], by simp -dsimp -implicitDefEqProofs only [go_sem, row04, hne3], AL, by omega, e4 ▸ Al.put ow4 (by omega)⟩
   ·repeat (first | rw [ko] | rw [kr] | simp -dsimp -implicitDefEqProofs only [go_sem, sQ1, sQ2, hks2, ei2, q1, row, row0, c0])
    have hi : i = (FE x sh).length := by unfold FE; rw [List.length_map]; omega
    rw [hi, List.take_length] at ow
    exact ⟨CF hle (Nat.le_refl _), fin _ v (Al.put ow (by omega)) hc (.inl hb)⟩
 ·have h6 : sh = 4 := by omega
  have hc := key (.inr h6)
  have hb : ET x sh = true ∨ sh = 4 := .inr h6
  refine bW hks ei h5 ?_
  refine AJ [0, 2, 4, 5] (fun m2 e2 h2 => ∃ (i : Nat) (v : X), g.le h2 ∧ n1 + 1 ≤ hn h2 .mk ∧ hg h2 n1 .mk = some ⟨2, [.raw (.int .i64 (sh : Nat)), v]⟩ ∧ hg h2 (hn g .mk) .mk = some ⟨2, [.raw (.int .i64 0), .raw (.slice none 0 0)]⟩ ∧ look e2 6 .mk = .raw (.int .i64 (i : Nat)) ∧ m2 + i = x.length ∧ Al (n1 + 1) h2 v ((FE x sh).take i)) x.length ?_ ?_
  ·exact ⟨0, _, CF (le_push (AK (le_push (H2.le.refl _)) (by rw [AB]; exact hn1))) (by omega), by simp only [AG, AB, AF]; omega, by simp -dsimp -implicitDefEqProofs only [go_sem, Av], by simp -dsimp -implicitDefEqProofs only [go_sem, Av, hne], AL, by omega, Own.nil⟩
  rintro m2 e2 h2 hks2 ⟨i, v, hle, nn, row, row0, ei2, hm2, ow⟩
  simp -dsimp -implicitDefEqProofs only [go_sem, sQ1] at hks2
  have c0 := AT ow
  by_cases q1 : (i : Int) < (x.length : Int)
  ·have q2 : i < x.length := by omega
   have w1 := BE i (by omega)
   have hxi := Ag (by omega) hx i
   have hne3 : (hn g .mk == n1) = false := hne
   refine DH hks2 ei2 q1 ?_
   refine AO [(0, []), (1, []), (2, []), (3, []), (4, []), (5, []), (6, []), (7, [1]), (8, [1]), (9, [1]), (10, []), (11, []), (12, [])] (by kernel_rfl) ?_
   repeat (first | rw [ko] | rw [kr] | simp -dsimp -implicitDefEqProofs only [go_sem, sQ1, q2, row])
   refine AA (K5 (by omega) (by omega) (by omega)) ?_
   rintro _ _ ⟨rfl, rfl⟩
   repeat (first | rw [ko] | rw [kr] | simp -dsimp -implicitDefEqProofs only [go_sem, sQ1, row])
   refine AA (CS (by omega) (by omega)) ?_
   rintro _ _ ⟨rfl, rfl⟩
   repeat (first | rw [ko] | rw [kr] | simp -dsimp -implicitDefEqProofs only [go_sem, sQ1, sQ3, row])
   refine GS (P := Tryz.prog) (D := fun _ => none) Go.Ai.ty_el25 Go.Ai.ty_zr3 Go.Ai.ty_cl25 (by omega) ow hle (by omega) nn (by rw [List.length_take]; omega) ?_
   intro v4 g4 ow4 le4 nn4 on4
   have c4 := AT ow4
   have row4 := (on4 n1 (by omega)).trans row
   have row04 := (on4 (hn g .mk) (by omega)).trans row0
   have e4 : (FE x sh).take (i + 1) = (FE x sh).take i ++ [Gz (Gq (x.getD i default) 1 sh) 15] := BL q2
   refine DH row4 c4 w1 ?_
   exact AI (m2 - 1) (by omega) AL ⟨i + 1, v4, CF le4 (by omega), by rw [AG]; exact nn4, by simp -dsimp -implicitDefEqProofs only [go_sem, Av], by simp -dsimp -implicitDefEqProofs only [go_sem, row04, hne3], AL, by omega, e4 ▸ Al.put ow4 (by omega)⟩
  ·repeat (first | rw [ko] | rw [kr] | simp -dsimp -implicitDefEqProofs only [go_sem, sQ1, sQ2, hks2, ei2, q1, row, row0, c0])
   have hi : i = (FE x sh).length := by unfold FE; rw [List.length_map]; omega
   rw [hi, List.take_length] at ow
   exact ⟨CF hle (Nat.le_refl _), fin _ v (Al.put ow (by omega)) hc hb⟩
theorem Iu {x : Int} {g : H2} (hx : -10000000 ≤ x ∧ x ≤ 10000000) : A7 Tryz.prog W0 161 [.raw (.int .i64 x)] g (fun v g' => v = .raw (.int .i64 (max x (-x))) ∧ g' = g) := by
 refine AH [[0], [0], [0], [0]] Tryz.func161 rfl (rs := [.tmp 2]) rfl rfl ?_
 intro wf
 have w : IntKind.i64.wrap (0 - x) = -x := by rw [AX (by omega)]; omega
 refine zr ?_
 refine AN (fun h1 => ?_) (fun h1 => ?_)
 ·refine A1 w ?_
  exact ⟨by rw [show max x (-x) = -x by omega], rfl⟩
 ·refine zr ?_
  exact ⟨by rw [show max x (-x) = x by omega], rfl⟩
theorem Ek {F : Nat → AQ} {b : Nat} {r s : Int} {m : AR} {f : AQ} {x : List Int} {g : H2} (mt : Mt (some b) g r s) (hm : C3 m = true) (hl : (x.length : Int) = m.width) (hx : Ay 127 x) :
  PM Tryz.prog W0 111 [.raw (.pointer (some ⟨b, 0, none⟩)), .st (BV F m), .sl f 1 (ints x)] g (some b) (Au r (Az m x)) s fun y => y = .tp [] := by
 refine (PM.of (q := fun _ => True) (Q := fun y => y = .tp []) mt ?_).mono fun y h => h.1
 have hwl : (Az m x).length = m.rows.length := CH
 have hwa := O1 hm hx
 have hrl := (HL hm).2.1
 refine AH [[0, 1, 2], [0, 2, 4], [0, 6], [0, 6, 8], [0, 6, 8], [0, 6, 8], [0, 6, 8]] Tryz.func111 rfl (rs := []) rfl rfl ?_
 intro wf
 refine zh ?_
 refine AD (TI.pw (LS (F := F) hm hl hx)) ?_
 rintro _ n1 hn1 ⟨⟨f2, rfl⟩, _⟩
 simp only [AB] at hn1
 refine zr ?_
 refine AJ [0, 6] (fun mm e h' => ∃ (i : Nat), AV (some b) g h' ∧ Mt (some b) h' (Au r ((Az m x).take i)) s ∧ look e 8 .mk = .raw (.int .i64 (i : Nat)) ∧ mm + i = m.rows.length) m.rows.length ?_ ?_
 ·exact ⟨0, AV.up (AV.push AV.refl) (by rw [AB]; exact hn1), Mt.up mt.push (by rw [AB]; exact hn1), AL, by omega⟩
 rintro mm e h' hks ⟨i, onL, mtL, ei, hmm⟩
 simp -dsimp -implicitDefEqProofs only [go_sem, sQ1] at hks
 obtain ⟨hb, mrow⟩ := mtL b rfl
 unfold E7 at mrow
 by_cases q1 : (i : Int) < (m.rows.length : Int)
 ·have q2 : i < m.rows.length := by omega
  have q3 : i < (Az m x).length := by omega
  have w1 := BE i (by omega)
  have hxi := Ag (by omega) hwa i
  have eg := Ih (n := r) q3
  refine Cu hks ei q1 hwl ?_
  refine AO [(0, []), (1, []), (2, []), (3, []), (5, []), (6, []), (7, []), (8, []), (4, [8]), (9, [])] (by kernel_rfl) ?_
  refine DH q2 hwl mrow ?_
  refine AA (Iu hxi) ?_
  rintro _ _ ⟨rfl, rfl⟩
  by_cases q4 : max ((Az m x).getD i default) (-(Az m x).getD i default) > Au r ((Az m x).take i)
  ·have e5 : Au r ((Az m x).take (i + 1)) = max ((Az m x).getD i default) (-(Az m x).getD i default) := by rw [eg]; omega
   refine Cu q2 hwl mrow q4 ?_
   refine AA (Iu hxi) ?_
   rintro _ _ ⟨rfl, rfl⟩
   refine C5 mrow w1 ?_
   exact AI (mm - 1) (by omega) AL ⟨i + 1, AV.setb onL, by rw [e5]; exact Mt.setb hb, AL, by omega⟩
  ·have e5 : Au r ((Az m x).take (i + 1)) = Au r ((Az m x).take i) := by rw [eg]; omega
   refine DH mrow q4 w1 ?_
   exact AI (mm - 1) (by omega) AL ⟨i + 1, onL, by rw [e5]; exact mtL, AL, by omega⟩
 ·refine Cu hks ei q1 hwl ?_
  have hi : i = (Az m x).length := by omega
  rw [hi, List.take_length] at mtL
  exact ⟨onL, mtL, .tp [], .tp rfl fun i hi _ => by simp at hi, rfl⟩
end Go.Bi
end
