/- Own lemmas that the theorem of this claim needs: the abstract machine and walks of functions. -/
import Derived.Test.YtegpkkefbmcddaaGreatQfLawAM
set_option linter.unusedSimpArgs false
set_option linter.unusedVariables false
open Nat renaming reduceBEq → sQ1, reduceAdd → sQ2, reduceLeDiff → sQ3, reduceMul → sQ4
open Int renaming reduceLE → sQ5, reduceLT → sQ6, reduceBEq → sQ7
section
set_option maxRecDepth 20000
namespace Go.Bi
open Go.Proofs
open Go.Ai (wrap_i64 wrap_u64 wrap_u8 Heap)
variable {W0 : World} {P : Program}
set_option maxHeartbeats 8000000
def bj (l : Aj) (x : List Int) (r : Int) : Int := Au (Au r (Az l.k (Ah x l.gain1))) (Az l.v (Ah x l.gain1))
def IB (m : AM) (past : List BS) (t n : Nat) : List (List At) := past.map (fun c => c.keys.getD n default) ++ [Df m (m.layers.getD n default) past.length (BU m past t n).1]
def Il (m : AM) (past : List BS) (t n : Nat) : List (List At) := past.map (fun c => c.values.getD n default) ++ [DY m (m.layers.getD n default) (BU m past t n).1]
def Js (m : AM) (past : List BS) (t : Nat) (r : Int) : Nat → Int
 | 0 => r
 | n + 1 => NI m (m.layers.getD n default) past.length (BU m past t n).1 (IB m past t n) (Il m past t n) (bj (m.layers.getD n default) (BU m past t n).1 (Js m past t r n))
def Je (m : AM) (past : List BS) (t : Nat) (s : Int) : Nat → Int
 | 0 => s
 | n + 1 => Qb m (m.layers.getD n default) past.length (BU m past t n).1 (IB m past t n) (Je m past t s n)
def EL (m : AM) (past : List BS) (t : Nat) (r : Int) : Int := Au (Js m past t r m.layers.length) (Bn m past t)
def ED (m : AM) (past : List BS) (t : Nat) (s : Int) : Int := Je m past t s m.layers.length
def eh (N : Nat) (g : H2) (y : X) (c : BS) (lg : List Int) : Prop := ∃ w1 w2 v b1 b2 b3, y = .tp [.st [w1, w2], v, .raw (.bool true)] ∧ OT g b1 w1 (.l 1 (An c.keys)) ∧ OT g b2 w2 (.l 1 (An c.values)) ∧ OT g b3 v (.l 1 (ints lg)) ∧ Bl N (hn g .mk) (b1 ++ b2 ++ b3)
theorem Yi {m : AM} {past : List BS} {t n : Nat} : (BU m past t (n + 1)).2.keys = (BU m past t n).2.keys ++ [Df m (m.layers.getD n default) past.length (BU m past t n).1] := rfl
theorem YW {m : AM} {past : List BS} {t n : Nat} : (BU m past t (n + 1)).2.values = (BU m past t n).2.values ++ [DY m (m.layers.getD n default) (BU m past t n).1] := rfl
theorem Ll {l : List (List At)} {k : List At} : ((l ++ [k]).map CL).flatten = (l.map CL).flatten ++ [.l 2 (Bd k)] := by
 rw [List.map_append, List.flatten_append]
 rfl
theorem U7 {F : Nat → AQ} {m : AM} {p : Option Nat} {r s : Int} {fp : AQ} {past : List BS} {t : Nat} {g : H2} (mt : Mt p g r s) (ht : CA m) (hp : ∀ c ∈ past, MM m c) (hpl : (past.length : Int) < m.context) (htk : t < m.embed.length) (hsz : m.embed.length ≤ 1048576) :
  A7 Tryz.prog W0 64 [.st (Gx F m (DS p)), .sl fp 2 (KG past), .raw (.int .i64 t)] g (fun y g' => AV p g g' ∧ Mt p g' (EL m past t r) (ED m past t s) ∧ eh (hn g .mk) g' y (Bb m past t) (Bn m past t)) := by
 have hct := (EZ ht.turns).1
 have hnl := ht.nl
 have hrow := ht.row t htk
 have hd := ht.dim
 refine AH [[0, 1, 2], [1, 2, 3, 6], [1, 2, 3, 6, 9], [1, 3, 6, 9, 10], [1, 3, 6, 9, 10, 11], [1, 3, 6, 9, 10, 11, 36, 37], [1, 3, 6, 9, 10, 11, 36, 37], [1, 3, 6, 9, 10, 11, 12, 36, 37], [1, 3, 6, 9, 10, 11, 12, 13, 14, 15, 36, 37], [6], [1, 3, 6, 9, 10, 11, 12, 13, 14, 36, 37], [1, 3, 6, 9, 10, 11, 12, 13, 14, 36, 37], [1, 3, 6, 9, 10, 11, 12, 13, 14, 36, 37], [1, 3, 6, 9, 10, 11, 12, 13, 14, 16, 17, 36, 37], [1, 3, 6, 9, 10, 11, 12, 13, 14, 16, 17, 36, 37, 66, 67, 68], [1, 3, 6, 9, 10, 11, 12, 13, 14, 16, 17, 36, 37, 66, 67, 68], [1, 3, 6, 9, 10, 11, 12, 13, 14, 16, 17, 19, 36, 37, 66, 67, 68], [1, 3, 6, 9, 10, 11, 12, 13, 14, 16, 17, 19, 36, 37, 66, 67, 68], [1, 3, 6, 9, 10, 11, 12, 13, 14, 16, 17, 36, 37, 66, 67, 68], [1, 3, 6, 9, 10, 11, 12, 13, 14, 16, 17, 36, 37], [1, 3, 6, 9, 10, 11, 15, 36, 37], [6], [1, 3, 6, 9, 10, 11, 36, 37], [3, 6, 9, 10], [3, 6, 9, 20, 21], [6], [3, 6, 9, 20], [3, 6, 9, 21, 22], [6], [3, 6, 9, 22], [3, 6, 9, 22], [6, 9, 22]] Tryz.func64 rfl (rs := [.cell 6 37, .tmp 7, .tmp 8]) rfl rfl ?_
 intro wf
 have hNp : ∀ b, p = some b → b < hn g .mk + 3 := fun b e => by have := (mt b e).1; omega
 have p0 : p ≠ some (hn g .mk) := fun e => by have := (mt _ e).1; omega
 have p1 : p ≠ some (hn g .mk + 1) := fun e => by have := (mt _ e).1; omega
 have p2 : p ≠ some (hn g .mk + 1 + 1) := fun e => by have := (mt _ e).1; omega
 have hne1 : (hn g .mk == hn g .mk + 1) = false := by simp
 have hne2 : (hn g .mk == hn g .mk + 1 + 1) = false := Cw
 have hne3 : (hn g .mk + 1 == hn g .mk + 1 + 1) = false := by simp
 have hne4 : (hn g .mk + 1 + 1 == hn g .mk + 1) = false := by simp
 refine bW hne1 hne2 htk ?_
 refine AD (PI.pw (NK (zs := m.embed.getD t default) (by omega))) ?_
 rintro _ n1 hn1 ⟨⟨f1, rfl⟩, _⟩
 simp only [AB, AG] at hn1
 refine LM hne1 hne2 ?_
 refine AJ [1, 3, 6, 9, 11, 36] (fun mm e h' => ∃ (i : Nat) (fx : AQ) (k1 v1 : X) (bs bs' : List Nat), AV p g h' ∧ hn g .mk + 3 ≤ hn h' .mk ∧ Mt p h' (Js m past t r i) (Je m past t s i) ∧ hg h' (hn g .mk) .mk = some ⟨15, [.raw (.int .i64 m.dim), .raw (.int .i64 m.heads), .raw (.int .i64 m.context), .sl (F 3) 2 (AY m.merges), .sl (F 4) 1 (AE m.embed), .sl (F 5) 32 (Af m.layers), .sl (F 6) 1 (ints m.gainEnd), .raw (.int .i64 m.head.width), .sl (F 8) 1 (AE m.head.rows), .sl (F 9) 1 (AE m.head.scales), .raw (.int .i64 m.head.mul), .raw (.int .i64 m.head.shift), .sl (F 12) 1 (AE m.turns.cos), .sl (F 13) 1 (AE m.turns.sin), .raw (DS p)]⟩ ∧ hg h' (hn g .mk + 1) .mk = some ⟨2, [.raw (.slice none 0 0), .raw (.slice none 0 0)]⟩ ∧ hg h' (hn g .mk + 1 + 1) .mk = some ⟨2, [k1, v1]⟩ ∧ look e 37 .mk = .raw (.int .i64 (i : Nat)) ∧ look e 10 .mk = .sl fx 1 (ints (BU m past t i).1) ∧ mm + i = m.layers.length ∧ PN (hn g .mk + 3) h' k1 v1 i (BU m past t i).2 bs bs') m.layers.length ?_ ?_
 ·refine ⟨0, f1, _, _, [], [], ?_, by simp only [AF]; omega, ?_, by simp -dsimp -implicitDefEqProofs only [go_sem, Av, hne1, hne2], by simp -dsimp -implicitDefEqProofs only [go_sem, Av, hne3], by simp -dsimp -implicitDefEqProofs only [go_sem, Av], AL, by simp -dsimp -implicitDefEqProofs only [go_sem, sQ1] <;> rfl, by omega, PN.nil⟩
  ·exact AV.up (AV.put (AV.push (AV.push (AV.push AV.refl))) (by omega)) (by simp only [AB, AG]; omega)
  ·exact Mt.up (Mt.put (mt.push.push.push) (mt.ne (by omega))) (by simp only [AB, AG]; omega)
 rintro mm e h' hks ⟨i, fx, k1, v1, bs, bs', onL, nn, mtL, r1, r2, r3, ei, ex, hm, tg⟩
 simp -dsimp -implicitDefEqProofs only [go_sem, sQ1] at hks
 by_cases q1 : (i : Int) < (m.layers.length : Int)
 ·have q2 : i < m.layers.length := by omega
  have w1 := BE i (by omega)
  have hxv : A5 m 500 (BU m past t i).1 := Jm ht htk (Nat.le_of_lt q2)
  have hlay := ht.lay i q2
  have kok := PQ (p := past.length) ht hlay hxv
  have vok := PV ht hlay hxv
  have kat : B7 m (IB m past t i) := NP ht hp q2 kok
  have vat : B7 m (Il m past t i) := NU ht hp q2 vok
  have cG := Gr.cell tg.1
  have cG2 := Gr.cell tg.2.1
  refine FD hks ei ex q1 r1 ?_
  refine AA (N8 (F := F) (k := past.length) mtL ht q2 hpl (hxv.mono (by omega))) ?_
  rintro _ g1 ⟨on1, mt1, wk, wv, b3, b4, rfl, ok, ov, bl⟩
  have nn1 := on1.1
  have ck := OT.cell ok
  have cv := OT.cell ov
  have r11 : hg g1 (hn g .mk) .mk = _ := (on1.2 (hn g .mk) (by omega) p0).trans r1
  have r12 : hg g1 (hn g .mk + 1) .mk = _ := (on1.2 (hn g .mk + 1) (by omega) p1).trans r2
  have r13 : hg g1 (hn g .mk + 1 + 1) .mk = _ := (on1.2 (hn g .mk + 1 + 1) (by omega) p2).trans r3
  have tg1 := tg.on on1 mtL hNp
  refine C5 r13 ck ?_
  have blk := bl.left
  have blv := bl.right
  have bld := bl.disj
  have kb : ∀ c, AP k1 = some c → hn g .mk + 3 ≤ c ∧ c < hn h' .mk := Gr.lt tg.1
  have vb : ∀ c, AP v1 = some c → hn g .mk + 3 ≤ c ∧ c < hn h' .mk := Gr.lt tg.2.1
  have bb : ∀ c ∈ bs, hn g .mk + 3 ≤ c ∧ c < hn h' .mk := Gr.bl tg.1
  have bb' : ∀ c ∈ bs', hn g .mk + 3 ≤ c ∧ c < hn h' .mk := Gr.bl tg.2.1
  refine Hi (cs := [wk]) rfl ?_
  intro w5 g2 hs2 l2
  have nn2 := l2.1
  refine zr ?_
  refine Ii (P := Tryz.prog) (N := hn g .mk + 3) (us := [.l 2 (Bd (Df m (m.layers.getD i default) past.length (BU m past t i).1))]) Go.Ai.ty_el35 Go.Ai.ty_zr156 rfl Go.Ai.ty_cl35 (by omega) (tg1.1.keep l2) hs2 (Ak.one (ok.keep l2 blk)) rfl (by omega) (fun b hb => by have := blk.2 b hb; omega) blk.1 (fun b hb hb' => by have := bb b hb; have := blk.2 b hb'; omega) (fun b e hb' => by have := kb b e; have := blk.2 b hb'; omega) (by omega) ?_
  intro g3 gr3 n3 fr3
  have on13 : ∀ c, c < hn g .mk + 3 → hg g3 c .mk = hg g1 c .mk := fun c hc => (fr3 c (by omega) (fun e => by have := kb c e; omega)).trans (l2.2 c (by omega))
  have r31 : hg g3 (hn g .mk) .mk = _ := (on13 _ (by omega)).trans r11
  have r32 : hg g3 (hn g .mk + 1) .mk = _ := (on13 _ (by omega)).trans r12
  have r33 : hg g3 (hn g .mk + 1 + 1) .mk = _ := (on13 _ (by omega)).trans r13
  have ov3 : OT g3 b4 wv _ := (ov.keep l2 blv).frame fun c hc => fr3 c (by have := (blv.2 c hc).2; omega) (fun e => by have := kb c e; have := (blv.2 c hc).1; omega)
  have gv3 : Gr _ g3 v1 _ _ _ _ := (tg1.2.1.keep l2).frame (by omega) fun c hc => fr3 c (by have : c < hn h' .mk := hc.elim (fun h => (bb' c h).2) (fun h => (vb c h).2); omega) (fun e => by
   have := tg.2.2.2.1 c e
   rcases hc with h | h
   ·exact this.1 h
   ·exact this.2 h)
  have mt3 : Mt p g3 _ _ := Mt.below mt1 hNp (by omega) on13
  have on3 : AV p g g3 := AV.below (onL.trans on1) (by omega) (by omega) on13
  refine C5 r33 cv ?_
  refine Hi (cs := [wv]) rfl ?_
  intro w6 g4 hs4 l4
  have nn4 := l4.1
  simp only [AG] at nn4
  have e43 : ∀ c, c < hn g3 .mk → hg g4 c .mk = hg (g3.set (hn g .mk + 1 + 1) ⟨2, [.raw (.slice (some ⟨hn g2 .mk, 0, none⟩) (i + 1) (i + 1)), v1]⟩) c .mk := fun c hc => l4.2 c (by rw [AG]; exact hc)
  have r41 : hg g4 (hn g .mk) .mk = _ := (e43 _ (by omega)).trans (by simp -dsimp -implicitDefEqProofs only [go_sem, hne2, r31] <;> rfl)
  have r42 : hg g4 (hn g .mk + 1) .mk = _ := (e43 _ (by omega)).trans (by simp -dsimp -implicitDefEqProofs only [go_sem, hne3, r32] <;> rfl)
  have r43 : hg g4 (hn g .mk + 1 + 1) .mk = _ := (e43 _ (by omega)).trans (by simp -dsimp -implicitDefEqProofs only [go_sem, Av] <;> rfl)
  have gk4 : Gr _ g4 _ _ _ _ _ := (gr3.put (c := hn g .mk + 1 + 1) (by omega)).keep l4
  have gv4 : Gr _ g4 v1 _ _ _ _ := (gv3.put (c := hn g .mk + 1 + 1) (by omega)).keep l4
  have ov4 : OT g4 b4 wv _ := (ov3.put (c := hn g .mk + 1 + 1) blv (by omega)).keep l4 (blv.wide (Nat.le_refl _) (by rw [AG]; omega))
  refine zr ?_
  refine Ii (P := Tryz.prog) (N := hn g .mk + 3) (us := [.l 2 (Bd (DY m (m.layers.getD i default) (BU m past t i).1))]) Go.Ai.ty_el35 Go.Ai.ty_zr156 rfl Go.Ai.ty_cl35 (by omega) gv4 hs4 (Ak.one ov4) rfl (by omega) (fun b hb => by have := blv.2 b hb; omega) blv.1 (fun b hb hb' => by have := bb' b hb; have := blv.2 b hb'; omega) (fun b e hb' => by have := vb b e; have := blv.2 b hb'; omega) (by omega) ?_
  intro g5 gr5 n5 fr5
  have on15 : ∀ c, c < hn g .mk + 2 → hg g5 c .mk = hg g1 c .mk := fun c hc => (fr5 c (by omega) (fun e => by have := vb c e; omega)).trans ((e43 c (by omega)).trans (by rw [BA, show (c == hn g .mk + 1 + 1) = false by simp; omega]; exact on13 c (by omega)))
  have r51 : hg g5 (hn g .mk) .mk = _ := (fr5 _ (by omega) (fun e => by have := vb _ e; omega)).trans r41
  have r52 : hg g5 (hn g .mk + 1) .mk = _ := (fr5 _ (by omega) (fun e => by have := vb _ e; omega)).trans r42
  have r53 : hg g5 (hn g .mk + 1 + 1) .mk = _ := (fr5 _ (by omega) (fun e => by have := vb _ e; omega)).trans r43
  have gk5 : Gr _ g5 _ _ _ _ _ := gk4.frame (by omega) fun c hc => fr5 c (by
   have : c < hn g3 .mk := hc.elim (fun h => (gr3.bl c h).2) (fun h => (gr3.lt c h).2)
   omega) (fun e => by
   have := vb c e
   rcases hc with h | h
   ·rcases List.mem_append.1 h with h | h
    ·exact tg.2.2.2.2 c e h
    ·have := (blk.2 c h).1; omega
   ·simp only [AP, Option.some.injEq] at h; omega)
  have tg5 : PN (hn g .mk + 3) g5 (.raw (.slice (some ⟨hn g2 .mk, 0, none⟩) (i + 1) (i + 1))) (.raw (.slice (some ⟨hn g4 .mk, 0, none⟩) (i + 1) (i + 1))) (i + 1) (BU m past t (i + 1)).2 (bs ++ b3) (bs' ++ b4) := by
   refine ⟨by rw [Yi, Ll]; exact gk5, by rw [YW, Ll]; exact gr5, ?_, ?_, ?_⟩
   ·intro b hb hb'
    rcases List.mem_append.1 hb with h | h <;> rcases List.mem_append.1 hb' with h' | h'
    ·exact tg.2.2.1 b h h'
    ·have := bb b h; have := blv.2 b h'; omega
    ·have := blk.2 b h; have := bb' b h'; omega
    ·exact bld b h h'
   ·intro b e
    simp only [AP, Option.some.injEq] at e
    subst e
    refine ⟨fun hb' => ?_, by simp only [AP, ne_eq, Option.some.injEq]; omega⟩
    rcases List.mem_append.1 hb' with h' | h'
    ·have := bb' _ h'; omega
    ·have := blv.2 _ h'; omega
   ·intro b e hb
    simp only [AP, Option.some.injEq] at e
    subst e
    rcases List.mem_append.1 hb with h | h
    ·have := bb _ h; omega
    ·have := blk.2 _ h; omega
  refine A1 r53 ?_
  have ok5 : OT g5 b3 wk _ := (((((ok.keep l2 blk).frame fun c hc => fr3 c (by have := (blk.2 c hc).2; omega) (fun e => by have := kb c e; have := (blk.2 c hc).1; omega)).put (c := hn g .mk + 1 + 1) blk (by omega)).keep l4 (blk.wide (Nat.le_refl _) (by rw [AG]; omega))).frame fun c hc => fr5 c (by have := (blk.2 c hc).2; omega) (fun e => by have := vb c e; have := (blk.2 c hc).1; omega))
  have ov5 : OT g5 b4 wv _ := ov4.frame fun c hc => fr5 c (by have := (blv.2 c hc).2; omega) (fun e => by have := vb c e; have := (blv.2 c hc).1; omega)
  have on15' : ∀ c, c < hn g .mk → hg g5 c .mk = hg g1 c .mk := fun c hc => on15 c (by omega)
  have hNp0 : ∀ b, p = some b → b < hn g .mk := fun b e => (mt b e).1
  have mt5 : Mt p g5 _ _ := Mt.below mt1 hNp0 (by omega) on15'
  have on5 : AV p g g5 := AV.below (onL.trans on1) (Nat.le_refl _) (by omega) on15'
  generalize hS : g5.set (hn g .mk + 1 + 1) ⟨2, [.raw (.slice (some ⟨hn g2 .mk, 0, none⟩) (i + 1) (i + 1)), .raw (.slice (some ⟨hn g4 .mk, 0, none⟩) (i + 1) (i + 1))]⟩ = S5
  have nS : hn S5 .mk = hn g5 .mk := by rw [← hS, AG]
  have rS1 : hg S5 (hn g .mk) .mk = _ := (show _ = hg g5 (hn g .mk) .mk by rw [← hS, BA, hne2]; rfl).trans r51
  have rS2 : hg S5 (hn g .mk + 1) .mk = _ := (show _ = hg g5 (hn g .mk + 1) .mk by rw [← hS, BA, hne3]; rfl).trans r52
  have rS3 : hg S5 (hn g .mk + 1 + 1) .mk = some ⟨2, [.raw (.slice (some ⟨hn g2 .mk, 0, none⟩) (i + 1) (i + 1)), .raw (.slice (some ⟨hn g4 .mk, 0, none⟩) (i + 1) (i + 1))]⟩ := by rw [← hS, BA, show (hn g .mk + 1 + 1 == hn g .mk + 1 + 1) = true by simp]; rfl
  have tgS : PN (hn g .mk + 3) S5 (.raw (.slice (some ⟨hn g2 .mk, 0, none⟩) (i + 1) (i + 1))) (.raw (.slice (some ⟨hn g4 .mk, 0, none⟩) (i + 1) (i + 1))) (i + 1) (BU m past t (i + 1)).2 (bs ++ b3) (bs' ++ b4) := by rw [← hS]; exact ⟨tg5.1.put (by omega), tg5.2.1.put (by omega), tg5.2.2⟩
  have okS : OT S5 b3 wk (.l 2 (Bd (Df m (m.layers.getD i default) past.length (BU m past t i).1))) := by rw [← hS]; exact ok5.put blk (by omega)
  have ovS : OT S5 b4 wv (.l 2 (Bd (DY m (m.layers.getD i default) (BU m past t i).1))) := by rw [← hS]; exact ov5.put blv (by omega)
  have mtS : Mt p S5 (bj (m.layers.getD i default) (BU m past t i).1 (Js m past t r i)) (Je m past t s i) := by rw [← hS]; exact mt5.put (by cases p with | none => rfl | some b => have := hNp0 b rfl; simp; omega)
  have onS : AV p g S5 := by rw [← hS]; exact AV.put on5 (by omega)
  have kl : (past.map fun c => c.keys.getD i default).length = past.length := List.length_map _
  have vl : (past.map fun c => c.values.getD i default).length = past.length := List.length_map _
  clear hS
  refine AJ [1, 3, 6, 9, 10, 11, 12, 13, 14, 36, 37, 66, 67] (fun m2 e2 h2 => ∃ (j b16 b17 : Nat), S5.le h2 ∧ hn S5 .mk ≤ b16 ∧ hn S5 .mk ≤ b17 ∧ b16 ≠ b17 ∧ CO CL 1 h2 b16 ((past.map fun c => c.keys.getD i default).take j) ∧ CO CL 1 h2 b17 ((past.map fun c => c.values.getD i default).take j) ∧ look e2 68 .mk = .raw (.int .i64 (j : Nat)) ∧ look e2 16 .mk = .raw (.slice (some ⟨b16, 0, none⟩) j j) ∧ look e2 17 .mk = .raw (.slice (some ⟨b17, 0, none⟩) j j) ∧ m2 + j = past.length) past.length ?_ ?_
  ·have hnS : (hn S5 .mk == hn S5 .mk + 1) = false := by simp
   exact ⟨0, hn S5 .mk, hn S5 .mk + 1, le_push (le_push (H2.le.refl _)), by omega, by omega, by omega, ⟨by simp only [AB]; omega, [], by simp -dsimp -implicitDefEqProofs only [go_sem, Av, hnS], .nil⟩, ⟨by simp only [AB]; omega, [], by simp -dsimp -implicitDefEqProofs only [go_sem, Av], .nil⟩, AL, by simp -dsimp -implicitDefEqProofs only [go_sem, sQ1, nS], by simp -dsimp -implicitDefEqProofs only [go_sem, sQ1, nS], by omega⟩
  rintro m2 e2 h2 hks2 ⟨j, b16, b17, leS, n16, n17, ne67, rf16, rf17, ej, e16, e17, hm2⟩
  simp -dsimp -implicitDefEqProofs only [go_sem, sQ1] at hks2
  have l16 : ((past.map fun c => c.keys.getD i default).take j).length = j := by rw [List.length_take, kl]; omega
  have l17 : ((past.map fun c => c.values.getD i default).take j).length = j := by rw [List.length_take, vl]; omega
  have lt16 := rf16.1
  have lt17 := rf17.1
  have nSl := leS.1
  by_cases p1' : (j : Int) < (past.length : Int)
  ·have p2' : j < past.length := by omega
   have cj := hp _ (BG p2')
   have q3 : i < (past.getD j default).keys.length := by rw [cj.1]; exact q2
   have q4 : i < (past.getD j default).values.length := by rw [cj.2.1]; exact q2
   have w2 := BE j (by omega)
   refine gj hks2 ej e16 e17 p1' p2' q3 ?_
   refine M3 (P := Tryz.prog) (a := (past.getD j default).keys.getD i default) Fy Go.Ai.ty_el35 Go.Ai.ty_zr156 rfl Go.Ai.ty_cl35 (by omega) (CO.keep rf16 (by simp only [AB]; omega) (by first | rw [Ap, show (b16 == hn h2 .mk) = false by simp; omega]; rfl | (rw [BA, Ap, show (b16 == hn h2 .mk) = false by simp; omega]; rfl))) (by omega) (by omega) ?_
   intro g7 rf7 n7 fr7
   simp only [AB] at rf7 n7 fr7
   have row7 : hg g7 (hn h2 .mk) .mk = _ := (fr7 (hn h2 .mk) (by omega) (by omega)).trans (by simp -dsimp -implicitDefEqProofs only [go_sem, Av] <;> rfl)
   have o7 : ∀ c, c < hn h2 .mk → c ≠ b16 → hg g7 c .mk = hg h2 c .mk := fun c hc hne => (fr7 c (by omega) hne).trans (by first | rw [Ap, show (c == hn h2 .mk) = false by simp; omega]; rfl | (rw [BA, Ap, show (c == hn h2 .mk) = false by simp; omega]; rfl))
   refine C5 q4 row7 ?_
   refine M3 (P := Tryz.prog) (a := (past.getD j default).values.getD i default) Fy Go.Ai.ty_el35 Go.Ai.ty_zr156 rfl Go.Ai.ty_cl35 (by omega) (CO.keep rf17 (by omega) (o7 b17 lt17 (fun e => ne67 e.symm))) (by omega) (by omega) ?_
   intro g8 rf8 n8 fr8
   refine A1 w2 ?_
   refine AI (m2 - 1) (by omega) AL ⟨j + 1, hn h2 .mk + 1 + 1, hn g7 .mk + 1, ?_, by omega, by omega, by omega, ?_, ?_, AL, AL, AL, by omega⟩
   ·exact ⟨by omega, fun c hc => (fr8 c (by omega) (by omega)).trans ((o7 c (by omega) (by omega)).trans (leS.2 c hc))⟩
   ·rw [BL p2']
    exact CO.keep rf7 (by omega) (fr8 _ (by omega) (by omega))
   ·rw [BL p2']
    exact rf8
  have rh1 : hg h2 (hn g .mk) .mk = _ := (leS.2 _ (by omega)).trans rS1
  have hj : j = past.length := by omega
  rw [hj, ← kl, List.take_length] at rf16
  rw [hj, ← vl, List.take_length] at rf17
  refine FD hks2 ej e16 e17 p1' ?_
  obtain ⟨cs16, ow16, er16⟩ := rf16.own (Nat.zero_le b16)
  obtain ⟨cs17, ow17, er17⟩ := rf17.own (Nat.zero_le b17)
  have row16 : hg h2 b16 .mk = some ⟨1, cs16⟩ := by
   obtain ⟨_, h⟩ := ow16
   rcases h with ⟨h, _⟩ | ⟨q, e, _, _, h⟩
   ·cases h
   ·cases e; exact h
  have row17 : hg h2 b17 .mk = some ⟨1, cs17⟩ := by
   obtain ⟨_, h⟩ := ow17
   rcases h with ⟨h, _⟩ | ⟨q, e, _, _, h⟩
   ·cases h
   ·cases e; exact h
  rw [kl, ← hj] at ow16
  rw [vl, ← hj] at ow17
  refine Py (.op 0 [] (.op 1 [] (.op 2 [] (.op 3 [] (.op 4 [] (.op 5 [] (.op 8 [] (.op 9 [] (.alt (.op 6 [0] (.alt (.op 7 [0] (.op 10 [0] (.op 11 [0] (.op 12 [] (.op 13 [] (.op 14 [] (.op 15 [] (.op 16 [] (.op 17 [] .nil))))))))) (.op 10 [0] (.op 7 [0] (.op 11 [0] (.op 12 [] (.op 13 [] (.op 14 [] (.op 15 [] (.op 16 [] (.op 17 [] .nil))))))))))) (.op 10 [0] (.op 6 [0] (.op 7 [0] (.op 11 [0] (.op 12 [] (.op 13 [] (.op 14 [] (.op 15 [] (.op 16 [] (.op 17 [] .nil))))))))))))))))))) (by kernel_rfl) ?_
  refine A1 rh1 ?_
  rw [Oh]
  refine ⟨?_, ?_⟩
  ·refine A1 ck ?_
   refine E6 (cs := [wk]) rfl ?_
   intro lwk ga hsk lega nga
   have frga : ∀ c, c < hn h2 .mk → hg ga c .mk = hg h2 c .mk := fun c hc => lega.2 c hc
   have ocga : ∀ c, c < hn h2 .mk → c ≠ b16 → c ≠ b17 → hg ga c .mk = hg h2 c .mk := fun c hc ha hb => (frga c (by omega)).trans (rfl)
   have r16ga := (frga b16 (by omega)).trans row16
   have r17ga := (frga b17 (by omega)).trans row17
   have ekga : hg ga (hn h2 .mk) .mk = hg ga (hn h2 .mk) .mk := rfl
   have rgga : hg ga (hn g .mk) .mk = _ := (frga _ (by omega)).trans rh1
   try (rw [kq]; refine ⟨by simp -dsimp -implicitDefEqProofs only [go_sem, sQ1, rgga], ?_⟩)
   refine fR hks2 ej e16 e17 p1' rh1 ck cv rgga ?_
   rw [Oh]
   refine ⟨?_, ?_⟩
   ·refine zr ?_
    refine CJ (P := Tryz.prog) (N := 0) Go.Ai.ty_el35 Go.Ai.ty_zr156 rfl Go.Ai.ty_cl35 (⟨ow16.1, .inr ⟨b16, rfl, Nat.zero_le _, by omega, r16ga⟩⟩ : Own 0 ga (.raw (.slice (some ⟨b16, 0, none⟩) j j)) (0 + 1) j cs16) (hsk ga ekga) rfl (by simp only [List.all_cons, List.all_nil, ck.2.1]; rfl) (by have : Go.Ai.most = 1099511627776 := rfl; omega) ?_
    intro gb rowkgb ngb hgb
    have frgb : ∀ c, c < hn ga .mk → c ≠ b16 → hg gb c .mk = hg ga c .mk := fun c hc hne => hgb c hc (by simp only [AP, ne_eq, Option.some.injEq]; omega)
    have ocgb : ∀ c, c < hn h2 .mk → c ≠ b16 → c ≠ b17 → hg gb c .mk = hg h2 c .mk := fun c hc ha hb => (frgb c (by omega) (by omega)).trans (ocga c hc ha hb)
    have r17gb := (frgb b17 (by omega) (by omega)).trans r17ga
    have rggb : hg gb (hn g .mk) .mk = _ := (frgb _ (by omega) (by omega)).trans rgga
    try (rw [kq]; refine ⟨by simp -dsimp -implicitDefEqProofs only [go_sem, sQ1, rggb], ?_⟩)
    refine A1 cv ?_
    refine E6 (cs := [wv]) rfl ?_
    intro lwv gc hsv legc ngc
    have frgc : ∀ c, c < hn gb .mk → hg gc c .mk = hg gb c .mk := fun c hc => legc.2 c hc
    have ocgc : ∀ c, c < hn h2 .mk → c ≠ b16 → c ≠ b17 → hg gc c .mk = hg h2 c .mk := fun c hc ha hb => (frgc c (by omega)).trans (ocgb c hc ha hb)
    have rowkgc := (frgc _ (by omega)).trans rowkgb
    have r17gc := (frgc b17 (by omega)).trans r17gb
    have evgc : hg gc (hn gb .mk) .mk = hg gc (hn gb .mk) .mk := rfl
    have rggc : hg gc (hn g .mk) .mk = _ := (frgc _ (by omega)).trans rggb
    try (rw [kq]; refine ⟨by simp -dsimp -implicitDefEqProofs only [go_sem, sQ1, rggc], ?_⟩)
    refine zr ?_
    refine CJ (P := Tryz.prog) (N := 0) Go.Ai.ty_el35 Go.Ai.ty_zr156 rfl Go.Ai.ty_cl35 (⟨ow17.1, .inr ⟨b17, rfl, Nat.zero_le _, by omega, r17gc⟩⟩ : Own 0 gc (.raw (.slice (some ⟨b17, 0, none⟩) j j)) (0 + 1) j cs17) (hsv gc evgc) rfl (by simp only [List.all_cons, List.all_nil, cv.2.1]; rfl) (by have : Go.Ai.most = 1099511627776 := rfl; omega) ?_
    intro gd rowvgd ngd hgd
    have frgd : ∀ c, c < hn gc .mk → c ≠ b17 → hg gd c .mk = hg gc c .mk := fun c hc hne => hgd c hc (by simp only [AP, ne_eq, Option.some.injEq]; omega)
    have ocgd : ∀ c, c < hn h2 .mk → c ≠ b16 → c ≠ b17 → hg gd c .mk = hg h2 c .mk := fun c hc ha hb => (frgd c (by omega) (by omega)).trans (ocgc c hc ha hb)
    have rowkgd := (frgd _ (by omega) (by omega)).trans rowkgc
    have rggd : hg gd (hn g .mk) .mk = _ := (frgd _ (by omega) (by omega)).trans rggc
    try (rw [kq]; refine ⟨by simp -dsimp -implicitDefEqProofs only [go_sem, sQ1, rggd], ?_⟩)
    refine zr ?_
    have le10 : S5.le gd := ⟨by omega, fun c hc => (ocgd c (by omega) (by omega) (by omega)).trans (leS.2 c hc)⟩
    have mt10 : Mt p gd _ _ := mtS.le le10
    have on10 : AV p g gd := onS.le le10
    have hpne : ∀ c, hn g .mk ≤ c → p ≠ some c := fun c hc e => by have := hNp0 c e; omega
    have ok10 := okS.keep le10 (blk.wide (Nat.le_refl _) (by omega))
    have ov10 := ovS.keep le10 (blv.wide (Nat.le_refl _) (by omega))
    obtain ⟨fk, hfk⟩ := Jn (p := fun c => p ≠ some c) (n := j + 1) rowkgd er16 ok10 (hpne _ (by omega)) (fun c hc => hpne c (by have := (blk.2 c hc).1; omega)) (by rw [kl]; omega)
    obtain ⟨fv, hfv⟩ := Jn (p := fun c => p ≠ some c) (n := j + 1) rowvgd er17 ov10 (hpne _ (by omega)) (fun c hc => hpne c (by have := (blv.2 c hc).1; omega)) (by rw [vl]; omega)
    have tkl : (IB m past t i).length = past.length + 1 := by simp [IB]
    have tvl : (Il m past t i).length = past.length + 1 := by simp [Il]
    refine Bm (PM.lend (.cons (EI (xs := Gx F m (DS p)) rfl) (.cons .raw (.cons .raw (.cons (Hn rfl) (.cons hfk (.cons hfv .nil)))))) mt10 (MI.pm mt10.bar (MZ (F := F) (k := past.length) (ks := IB m past t i) (vs := Il m past t i) mt10.bar ht q2 hpl (hxv.mono (by omega)) kat vat (by omega) (by omega) (by omega))) (fun y hy => by have := hy.2; rwa [CW] at this)) ?_
    rintro _ n11 hn11 ⟨⟨f11, rfl⟩, _⟩
    have rg11 := rggd
    try (rw [kq]; refine ⟨AL, ?_⟩)
    refine A1 w1 ?_
    have on11 : AV p gd _ := AV.up (n := n11) (AV.gM (r := Js m past t r (i + 1)) (s := Je m past t s (i + 1)) (AV.refl (p := p) (g := gd))) (by rw [Bj]; exact hn11)
    have rq1 := (on11.2 (hn g .mk) (by omega) p0).trans ((le10.2 (hn g .mk) (by omega)).trans rS1)
    have rq2 := (on11.2 (hn g .mk + 1) (by omega) p1).trans ((le10.2 (hn g .mk + 1) (by omega)).trans rS2)
    have rq3 := (on11.2 (hn g .mk + 1 + 1) (by omega) p2).trans ((le10.2 (hn g .mk + 1 + 1) (by omega)).trans rS3)
    have tg11 := ((tgS.on (AV.of (p := p) le10) mtS hNp).on on11 mt10 hNp)
    exact AI (mm - 1) (by omega) AL ⟨i + 1, f11, _, _, bs ++ b3, bs' ++ b4, on10.trans on11, by simp only [AF]; omega, Mt.up (Mt.set mt10) (by rw [Bj]; exact hn11), rq1, rq2, rq3, AL, by simp -dsimp -implicitDefEqProofs only [go_sem, sQ1] <;> rfl, by omega, tg11⟩
   ·refine A1 cv ?_
    refine E6 (cs := [wv]) rfl ?_
    intro lwv gb hsv legb ngb
    have frgb : ∀ c, c < hn ga .mk → hg gb c .mk = hg ga c .mk := fun c hc => legb.2 c hc
    have ocgb : ∀ c, c < hn h2 .mk → c ≠ b16 → c ≠ b17 → hg gb c .mk = hg h2 c .mk := fun c hc ha hb => (frgb c (by omega)).trans (ocga c hc ha hb)
    have r16gb := (frgb b16 (by omega)).trans r16ga
    have r17gb := (frgb b17 (by omega)).trans r17ga
    have ekgb := (frgb (hn h2 .mk) (by omega)).trans ekga
    have evgb : hg gb (hn ga .mk) .mk = hg gb (hn ga .mk) .mk := rfl
    have rggb : hg gb (hn g .mk) .mk = _ := (frgb _ (by omega)).trans rgga
    try (rw [kq]; refine ⟨by simp -dsimp -implicitDefEqProofs only [go_sem, sQ1, rggb], ?_⟩)
    refine zr ?_
    refine CJ (P := Tryz.prog) (N := 0) Go.Ai.ty_el35 Go.Ai.ty_zr156 rfl Go.Ai.ty_cl35 (⟨ow16.1, .inr ⟨b16, rfl, Nat.zero_le _, by omega, r16gb⟩⟩ : Own 0 gb (.raw (.slice (some ⟨b16, 0, none⟩) j j)) (0 + 1) j cs16) (hsk gb ekgb) rfl (by simp only [List.all_cons, List.all_nil, ck.2.1]; rfl) (by have : Go.Ai.most = 1099511627776 := rfl; omega) ?_
    intro gc rowkgc ngc hgc
    have frgc : ∀ c, c < hn gb .mk → c ≠ b16 → hg gc c .mk = hg gb c .mk := fun c hc hne => hgc c hc (by simp only [AP, ne_eq, Option.some.injEq]; omega)
    have ocgc : ∀ c, c < hn h2 .mk → c ≠ b16 → c ≠ b17 → hg gc c .mk = hg h2 c .mk := fun c hc ha hb => (frgc c (by omega) (by omega)).trans (ocgb c hc ha hb)
    have r17gc := (frgc b17 (by omega) (by omega)).trans r17gb
    have evgc := (frgc (hn ga .mk) (by omega) (by omega)).trans evgb
    have rggc : hg gc (hn g .mk) .mk = _ := (frgc _ (by omega) (by omega)).trans rggb
    try (rw [kq]; refine ⟨by simp -dsimp -implicitDefEqProofs only [go_sem, sQ1, rggc], ?_⟩)
    refine zr ?_
    refine CJ (P := Tryz.prog) (N := 0) Go.Ai.ty_el35 Go.Ai.ty_zr156 rfl Go.Ai.ty_cl35 (⟨ow17.1, .inr ⟨b17, rfl, Nat.zero_le _, by omega, r17gc⟩⟩ : Own 0 gc (.raw (.slice (some ⟨b17, 0, none⟩) j j)) (0 + 1) j cs17) (hsv gc evgc) rfl (by simp only [List.all_cons, List.all_nil, cv.2.1]; rfl) (by have : Go.Ai.most = 1099511627776 := rfl; omega) ?_
    intro gd rowvgd ngd hgd
    have frgd : ∀ c, c < hn gc .mk → c ≠ b17 → hg gd c .mk = hg gc c .mk := fun c hc hne => hgd c hc (by simp only [AP, ne_eq, Option.some.injEq]; omega)
    have ocgd : ∀ c, c < hn h2 .mk → c ≠ b16 → c ≠ b17 → hg gd c .mk = hg h2 c .mk := fun c hc ha hb => (frgd c (by omega) (by omega)).trans (ocgc c hc ha hb)
    have rowkgd := (frgd _ (by omega) (by omega)).trans rowkgc
    have rggd : hg gd (hn g .mk) .mk = _ := (frgd _ (by omega) (by omega)).trans rggc
    try (rw [kq]; refine ⟨by simp -dsimp -implicitDefEqProofs only [go_sem, sQ1, rggd], ?_⟩)
    refine zr ?_
    have le10 : S5.le gd := ⟨by omega, fun c hc => (ocgd c (by omega) (by omega) (by omega)).trans (leS.2 c hc)⟩
    have mt10 : Mt p gd _ _ := mtS.le le10
    have on10 : AV p g gd := onS.le le10
    have hpne : ∀ c, hn g .mk ≤ c → p ≠ some c := fun c hc e => by have := hNp0 c e; omega
    have ok10 := okS.keep le10 (blk.wide (Nat.le_refl _) (by omega))
    have ov10 := ovS.keep le10 (blv.wide (Nat.le_refl _) (by omega))
    obtain ⟨fk, hfk⟩ := Jn (p := fun c => p ≠ some c) (n := j + 1) rowkgd er16 ok10 (hpne _ (by omega)) (fun c hc => hpne c (by have := (blk.2 c hc).1; omega)) (by rw [kl]; omega)
    obtain ⟨fv, hfv⟩ := Jn (p := fun c => p ≠ some c) (n := j + 1) rowvgd er17 ov10 (hpne _ (by omega)) (fun c hc => hpne c (by have := (blv.2 c hc).1; omega)) (by rw [vl]; omega)
    have tkl : (IB m past t i).length = past.length + 1 := by simp [IB]
    have tvl : (Il m past t i).length = past.length + 1 := by simp [Il]
    refine Bm (PM.lend (.cons (EI (xs := Gx F m (DS p)) rfl) (.cons .raw (.cons .raw (.cons (Hn rfl) (.cons hfk (.cons hfv .nil)))))) mt10 (MI.pm mt10.bar (MZ (F := F) (k := past.length) (ks := IB m past t i) (vs := Il m past t i) mt10.bar ht q2 hpl (hxv.mono (by omega)) kat vat (by omega) (by omega) (by omega))) (fun y hy => by have := hy.2; rwa [CW] at this)) ?_
    rintro _ n11 hn11 ⟨⟨f11, rfl⟩, _⟩
    have rg11 := rggd
    try (rw [kq]; refine ⟨AL, ?_⟩)
    refine A1 w1 ?_
    have on11 : AV p gd _ := AV.up (n := n11) (AV.gM (r := Js m past t r (i + 1)) (s := Je m past t s (i + 1)) (AV.refl (p := p) (g := gd))) (by rw [Bj]; exact hn11)
    have rq1 := (on11.2 (hn g .mk) (by omega) p0).trans ((le10.2 (hn g .mk) (by omega)).trans rS1)
    have rq2 := (on11.2 (hn g .mk + 1) (by omega) p1).trans ((le10.2 (hn g .mk + 1) (by omega)).trans rS2)
    have rq3 := (on11.2 (hn g .mk + 1 + 1) (by omega) p2).trans ((le10.2 (hn g .mk + 1 + 1) (by omega)).trans rS3)
    have tg11 := ((tgS.on (AV.of (p := p) le10) mtS hNp).on on11 mt10 hNp)
    exact AI (mm - 1) (by omega) AL ⟨i + 1, f11, _, _, bs ++ b3, bs' ++ b4, on10.trans on11, by simp only [AF]; omega, Mt.up (Mt.set mt10) (by rw [Bj]; exact hn11), rq1, rq2, rq3, AL, by simp -dsimp -implicitDefEqProofs only [go_sem, sQ1] <;> rfl, by omega, tg11⟩
  ·refine A1 cv ?_
   refine E6 (cs := [wv]) rfl ?_
   intro lwv ga hsv lega nga
   have frga : ∀ c, c < hn h2 .mk → hg ga c .mk = hg h2 c .mk := fun c hc => lega.2 c hc
   have ocga : ∀ c, c < hn h2 .mk → c ≠ b16 → c ≠ b17 → hg ga c .mk = hg h2 c .mk := fun c hc ha hb => (frga c (by omega)).trans (rfl)
   have r16ga := (frga b16 (by omega)).trans row16
   have r17ga := (frga b17 (by omega)).trans row17
   have evga : hg ga (hn h2 .mk) .mk = hg ga (hn h2 .mk) .mk := rfl
   have rgga : hg ga (hn g .mk) .mk = _ := (frga _ (by omega)).trans rh1
   try (rw [kq]; refine ⟨by simp -dsimp -implicitDefEqProofs only [go_sem, sQ1, rgga], ?_⟩)
   refine A1 ck ?_
   refine E6 (cs := [wk]) rfl ?_
   intro lwk gb hsk legb ngb
   have frgb : ∀ c, c < hn ga .mk → hg gb c .mk = hg ga c .mk := fun c hc => legb.2 c hc
   have ocgb : ∀ c, c < hn h2 .mk → c ≠ b16 → c ≠ b17 → hg gb c .mk = hg h2 c .mk := fun c hc ha hb => (frgb c (by omega)).trans (ocga c hc ha hb)
   have r16gb := (frgb b16 (by omega)).trans r16ga
   have r17gb := (frgb b17 (by omega)).trans r17ga
   have evgb := (frgb (hn h2 .mk) (by omega)).trans evga
   have ekgb : hg gb (hn ga .mk) .mk = hg gb (hn ga .mk) .mk := rfl
   have rggb : hg gb (hn g .mk) .mk = _ := (frgb _ (by omega)).trans rgga
   try (rw [kq]; refine ⟨by simp -dsimp -implicitDefEqProofs only [go_sem, sQ1, rggb], ?_⟩)
   refine zr ?_
   refine CJ (P := Tryz.prog) (N := 0) Go.Ai.ty_el35 Go.Ai.ty_zr156 rfl Go.Ai.ty_cl35 (⟨ow16.1, .inr ⟨b16, rfl, Nat.zero_le _, by omega, r16gb⟩⟩ : Own 0 gb (.raw (.slice (some ⟨b16, 0, none⟩) j j)) (0 + 1) j cs16) (hsk gb ekgb) rfl (by simp only [List.all_cons, List.all_nil, ck.2.1]; rfl) (by have : Go.Ai.most = 1099511627776 := rfl; omega) ?_
   intro gc rowkgc ngc hgc
   have frgc : ∀ c, c < hn gb .mk → c ≠ b16 → hg gc c .mk = hg gb c .mk := fun c hc hne => hgc c hc (by simp only [AP, ne_eq, Option.some.injEq]; omega)
   have ocgc : ∀ c, c < hn h2 .mk → c ≠ b16 → c ≠ b17 → hg gc c .mk = hg h2 c .mk := fun c hc ha hb => (frgc c (by omega) (by omega)).trans (ocgb c hc ha hb)
   have r17gc := (frgc b17 (by omega) (by omega)).trans r17gb
   have evgc := (frgc (hn h2 .mk) (by omega) (by omega)).trans evgb
   have rggc : hg gc (hn g .mk) .mk = _ := (frgc _ (by omega) (by omega)).trans rggb
   try (rw [kq]; refine ⟨by simp -dsimp -implicitDefEqProofs only [go_sem, sQ1, rggc], ?_⟩)
   refine zr ?_
   refine CJ (P := Tryz.prog) (N := 0) Go.Ai.ty_el35 Go.Ai.ty_zr156 rfl Go.Ai.ty_cl35 (⟨ow17.1, .inr ⟨b17, rfl, Nat.zero_le _, by omega, r17gc⟩⟩ : Own 0 gc (.raw (.slice (some ⟨b17, 0, none⟩) j j)) (0 + 1) j cs17) (hsv gc evgc) rfl (by simp only [List.all_cons, List.all_nil, cv.2.1]; rfl) (by have : Go.Ai.most = 1099511627776 := rfl; omega) ?_
   intro gd rowvgd ngd hgd
   have frgd : ∀ c, c < hn gc .mk → c ≠ b17 → hg gd c .mk = hg gc c .mk := fun c hc hne => hgd c hc (by simp only [AP, ne_eq, Option.some.injEq]; omega)
   have ocgd : ∀ c, c < hn h2 .mk → c ≠ b16 → c ≠ b17 → hg gd c .mk = hg h2 c .mk := fun c hc ha hb => (frgd c (by omega) (by omega)).trans (ocgc c hc ha hb)
   have rowkgd := (frgd _ (by omega) (by omega)).trans rowkgc
   have rggd : hg gd (hn g .mk) .mk = _ := (frgd _ (by omega) (by omega)).trans rggc
   try (rw [kq]; refine ⟨by simp -dsimp -implicitDefEqProofs only [go_sem, sQ1, rggd], ?_⟩)
   refine zr ?_
   have le10 : S5.le gd := ⟨by omega, fun c hc => (ocgd c (by omega) (by omega) (by omega)).trans (leS.2 c hc)⟩
   have mt10 : Mt p gd _ _ := mtS.le le10
   have on10 : AV p g gd := onS.le le10
   have hpne : ∀ c, hn g .mk ≤ c → p ≠ some c := fun c hc e => by have := hNp0 c e; omega
   have ok10 := okS.keep le10 (blk.wide (Nat.le_refl _) (by omega))
   have ov10 := ovS.keep le10 (blv.wide (Nat.le_refl _) (by omega))
   obtain ⟨fk, hfk⟩ := Jn (p := fun c => p ≠ some c) (n := j + 1) rowkgd er16 ok10 (hpne _ (by omega)) (fun c hc => hpne c (by have := (blk.2 c hc).1; omega)) (by rw [kl]; omega)
   obtain ⟨fv, hfv⟩ := Jn (p := fun c => p ≠ some c) (n := j + 1) rowvgd er17 ov10 (hpne _ (by omega)) (fun c hc => hpne c (by have := (blv.2 c hc).1; omega)) (by rw [vl]; omega)
   have tkl : (IB m past t i).length = past.length + 1 := by simp [IB]
   have tvl : (Il m past t i).length = past.length + 1 := by simp [Il]
   refine Bm (PM.lend (.cons (EI (xs := Gx F m (DS p)) rfl) (.cons .raw (.cons .raw (.cons (Hn rfl) (.cons hfk (.cons hfv .nil)))))) mt10 (MI.pm mt10.bar (MZ (F := F) (k := past.length) (ks := IB m past t i) (vs := Il m past t i) mt10.bar ht q2 hpl (hxv.mono (by omega)) kat vat (by omega) (by omega) (by omega))) (fun y hy => by have := hy.2; rwa [CW] at this)) ?_
   rintro _ n11 hn11 ⟨⟨f11, rfl⟩, _⟩
   have rg11 := rggd
   try (rw [kq]; refine ⟨AL, ?_⟩)
   refine A1 w1 ?_
   have on11 : AV p gd _ := AV.up (n := n11) (AV.gM (r := Js m past t r (i + 1)) (s := Je m past t s (i + 1)) (AV.refl (p := p) (g := gd))) (by rw [Bj]; exact hn11)
   have rq1 := (on11.2 (hn g .mk) (by omega) p0).trans ((le10.2 (hn g .mk) (by omega)).trans rS1)
   have rq2 := (on11.2 (hn g .mk + 1) (by omega) p1).trans ((le10.2 (hn g .mk + 1) (by omega)).trans rS2)
   have rq3 := (on11.2 (hn g .mk + 1 + 1) (by omega) p2).trans ((le10.2 (hn g .mk + 1 + 1) (by omega)).trans rS3)
   have tg11 := ((tgS.on (AV.of (p := p) le10) mtS hNp).on on11 mt10 hNp)
   exact AI (mm - 1) (by omega) AL ⟨i + 1, f11, _, _, bs ++ b3, bs' ++ b4, on10.trans on11, by simp only [AF]; omega, Mt.up (Mt.set mt10) (by rw [Bj]; exact hn11), rq1, rq2, rq3, AL, by simp -dsimp -implicitDefEqProofs only [go_sem, sQ1] <;> rfl, by omega, tg11⟩
 obtain rfl : i = m.layers.length := by omega
 have hxv : A5 m 500 (BU m past t m.layers.length).1 := Jm ht htk (Nat.le_refl _)
 have hge := HJ ht.gain
 have hnx : A5 m 127 (Ah (BU m past t m.layers.length).1 m.gainEnd) := hxv.norm
 have hvl := hxv.len ht
 have hnx2 := hnx.len ht
 have hhd := Cz ht.head
 have hvoc : B2 m = 256 + (m.merges.length : Int) := rfl
 have hrl := (HL hhd.1).2.1
 have cG := Gr.cell tg.1
 have cG2 := Gr.cell tg.2.1
 have tc := Hw (past := past) ht htk (Nat.le_refl m.layers.length)
 refine FD hks ei ex q1 r1 ?_
 refine AD (TI.pw (I7 (x := (BU m past t m.layers.length).1) (gn := m.gainEnd) (Bz hxv.2 (by omega)) (by omega) (by omega) (by omega) hge.2.1)) ?_
 rintro _ n3 hn3 ⟨⟨f3, rfl⟩, _⟩
 refine A1 r1 ?_
 refine AA (Mi (F := fun j => F (j + 7)) (m := m.head) hhd.1 (by omega) (by omega) hnx.2) ?_
 rintro _ g4 ⟨l4, v, rfl, ow⟩
 have nn4 := l4.1
 simp only [AF] at nn4 ow
 have c0 := AT ow
 have r41 : hg g4 (hn g .mk) .mk = _ := (l4.2 _ (by simp only [AF]; omega)).trans r1
 have r42 : hg g4 (hn g .mk + 1) .mk = _ := (l4.2 _ (by simp only [AF]; omega)).trans r2
 have r43 : hg g4 (hn g .mk + 1 + 1) .mk = _ := (l4.2 _ (by simp only [AF]; omega)).trans r3
 have leh : h'.le g4 := H2.le.trans (AK (H2.le.refl _) hn3) l4
 have mt4 : Mt p g4 _ _ := mtL.le leh
 have on4 : AV p g g4 := onL.le leh
 obtain ⟨b3, ov, bl3⟩ := Al.tree ow
 obtain ⟨b1, o1, d1, s1⟩ := Gr.tree2 (es := An (BU m past t m.layers.length).2.keys) (tg.1.keep leh) (by rw [HD, tc.1]) (fun e he => by obtain ⟨x, _, rfl⟩ := List.mem_map.1 he; rfl)
 obtain ⟨b2, o2, d2, s2⟩ := Gr.tree2 (es := An (BU m past t m.layers.length).2.values) (tg.2.1.keep leh) (by rw [HD, tc.2.1]) (fun e he => by obtain ⟨x, _, rfl⟩ := List.mem_map.1 he; rfl)
 have kb : ∀ c, c ∈ b1 → hn g .mk + 3 ≤ c ∧ c < hn h' .mk := fun c hc => (s1 c hc).elim (fun h => Gr.bl tg.1 c h) (fun h => Gr.lt tg.1 c h)
 have vb : ∀ c, c ∈ b2 → hn g .mk + 3 ≤ c ∧ c < hn h' .mk := fun c hc => (s2 c hc).elim (fun h => Gr.bl tg.2.1 c h) (fun h => Gr.lt tg.2.1 c h)
 have dis : ∀ c ∈ b1, c ∉ b2 := fun c hc hc2 => by
  rcases s1 c hc with h | h <;> rcases s2 c hc2 with h' | h'
  ·exact tg.2.2.1 c h h'
  ·exact tg.2.2.2.2 c h' h
  ·exact (tg.2.2.2.1 c h).1 h'
  ·exact (tg.2.2.2.1 c h).2 h'
 have blA : Bl (hn g .mk + 3) (hn g4 .mk) (b1 ++ b2 ++ b3) := by
  refine ⟨List.nodup_append.2 ⟨List.nodup_append.2 ⟨d1, d2, fun x hx y hy e => dis x hx (e ▸ hy)⟩, bl3.1, fun x hx y hy e => ?_⟩, fun x hx => ?_⟩
  ·subst e
   have := (bl3.2 x hy).1
   rcases List.mem_append.1 hx with h | h
   ·have := kb x h; omega
   ·have := vb x h; omega
  ·rcases List.mem_append.1 hx with h | h
   ·rcases List.mem_append.1 h with h | h
    ·have := kb x h; omega
    ·have := vb x h; omega
   ·have := bl3.2 x h; omega
 have bx1 : Bl (hn g .mk + 3) (hn g4 .mk) b1 := blA.left.left
 have bx2 : Bl (hn g .mk + 3) (hn g4 .mk) b2 := blA.left.right
 have bx3 : Bl (hn g .mk + 3) (hn g4 .mk) b3 := blA.right
 have fin : ∀ S : H2, AV p g S → Mt p S (EL m past t r) (ED m past t s) → hn g4 .mk ≤ hn S .mk → (∀ c, hn g .mk + 3 ≤ c → hg S c .mk = hg g4 c .mk) → AV p g S ∧ Mt p S (EL m past t r) (ED m past t s) ∧ eh (hn g .mk) S (.tp [.st [k1, v1], v, .raw (.bool true)]) (Bb m past t) (Bn m past t) := fun S h1 h2 h3 h4 =>
  ⟨h1, h2, k1, v1, v, b1, b2, b3, rfl, o1.frame fun c hc => h4 c (bx1.2 c hc).1, o2.frame fun c hc => h4 c (bx2.2 c hc).1, ov.frame fun c hc => h4 c (bx3.2 c hc).1, blA.wide (by omega) (by omega)⟩
 cases p with
 | none =>
  repeat (first | rw [ko] | rw [kr] | simp -dsimp -implicitDefEqProofs only [go_sem, sQ1, sQ2, r41, r42, r43, c0, cG, cG2, DS])
  exact fin _ (AV.put on4 (by omega)) Mt.none (by rw [AG]; exact Nat.le_refl _) fun c hc => by rw [BA, show (c == hn g .mk + 1) = false by simp; omega]; rfl
 | some b =>
  obtain ⟨hb, mrow⟩ := mt4 b rfl
  have hb0 := (mt b rfl).1
  unfold E7 at mrow
  have z1 : (hn g .mk == b) = false := Cw
  have z2 : (hn g .mk + 1 == b) = false := Cw
  have z3 : (hn g .mk + 1 + 1 == b) = false := Cw
  have z4 : (b == hn g .mk + 1) = false := Cw
  obtain ⟨fz, hfz⟩ := ow.lent
  repeat (first | rw [ko] | rw [kr] | simp -dsimp -implicitDefEqProofs only [go_sem, sQ1, r41, DS])
  refine AO [(0, []), (1, []), (2, []), (3, []), (4, []), (5, []), (6, []), (7, []), (8, [1]), (9, []), (10, []), (11, [])] (by kernel_rfl) ?_
  repeat (first | rw [ko] | rw [kr] | simp -dsimp -implicitDefEqProofs only [go_sem, sQ1, r41, DS, mrow])
  refine AD (PW.lend (.cons Mq (.cons hfz .nil)) (T8 (l := Az m.head (Ah (BU m past t m.layers.length).1 m.gainEnd)) (O1 hhd.1 hnx.2) (by rw [CH]; omega)) (fun y h => by rw [h]; exact .raw)) ?_
  rintro _ n5 hn5 rfl
  try (rw [kq]; refine ⟨by simp -dsimp -implicitDefEqProofs only [go_sem, sQ1, r41, DS], ?_⟩)
  refine UK r42 r43 c0 cG cG2 mrow z2 z3 ?_
  refine fin _ (AV.put (AV.setb (on4.up hn5)) (by omega)) (Mt.put (Mt.setb (r := EL m past t r) (s := ED m past t s) (by rw [AF]; omega)) (by simp; omega)) (by simp only [AG, AF]; exact hn5) fun c hc => ?_
  rw [BA, show (c == hn g .mk + 1) = false by simp; omega, FB, BA, show (c == b) = false by simp; omega]
  rfl
end Go.Bi
end
section
set_option maxRecDepth 20000
namespace Go.Bi
open Go.Proofs
open Go.Ai (wrap_i64 wrap_u64 wrap_u8 Heap)
variable {W0 : World} {P : Program}
set_option maxHeartbeats 8000000
theorem TM {q : Nat → Prop} {F : Nat → AQ} {p : At} {y : X} (h : Bu q (.tp [.st (JE F p), y])) : Bu q (.sl (F 1) 1 (ints p.values)) := by
 cases h with
 | tp h =>
  have h1 := h _ List.mem_cons_self
  cases h1 with
  | st h2 => exact h2 _ (List.mem_cons_of_mem _ List.mem_cons_self)
theorem MW {h : Int} {f : AQ} {x : List Int} {n size : Nat} {g : H2} (e : h = (n : Nat)) (hn2 : n = 1 ∨ n = 2) (hs : 1 ≤ size) (hl : x.length = n * size) (h8 : x.length ≤ 8) : PW Tryz.prog W0 157 [.sl f 1 (ints x), .raw (.int .i64 h)] g (fun y => ∃ f, y = .tp [.sl f 1 (AE (Bq x size n)), .raw (.bool true)]) := by
 subst e
 exact UO hn2 hs hl h8
theorem JX {K : KT} {f : FuncId} {xs : List X} {g : H2} {p : Option Nat} {r0 s0 r s : Int} {Q : X → Prop} (m : Mt p g r0 s0) (c : Mt p g r0 s0 → PM P W0 f xs g p r s Q)
    (hk : ∀ y n, hn g .mk ≤ n → Mt p ((gM g p r s).up n) r s → AV p g ((gM g p r s).up n) → Q y → kz K y ((gM g p r s).up n) .mk) : wz P W0 f xs g K .mk :=
  Bm (c m) fun y n h q => hk y n h (Mt.up (Mt.set m) (by rw [Bj]; exact h)) (AV.up (AV.gM AV.refl) (by rw [Bj]; exact h)) q
theorem PH {p : Nat → Prop} {b n z : Nat} {cs : List X} {ts : List T} (ht : CR cs = some ts) (hl : cs.length = n * z) (hb : p b) (hc : ∀ x ∈ cs, (∃ v, x = .raw v) ∨ ∃ f k es, x = .sl f k es ∧ Bu p (.sl f k es)) : Bu p (.sl (FY b n z cs) z (chunk z n ts)) :=
 Fz.all (p := p) (q := p) (fun _ h => h) (fun _ h => h) (Fz.own (g := ⟨0, fun _ => some ⟨z, cs⟩⟩) (b := b) (n := n) (z := z) (cs := cs) (cs' := cs) rfl hb hl rfl (fun i hi hi' => by
  rcases hc _ (List.getElem_mem hi) with ⟨v, e⟩ | ⟨f, k, es, e, ha⟩
  ·rw [e]; exact .raw
  ·rw [e]; exact .sl ha) ht)
theorem Tb {p : Nat → Prop} {f : AQ} : ∀ {ts : List T} {j : Nat}, (∀ q t, ts[q]? = some t → H9 p (under f (j + q)) t) → ∀ x ∈ Gv f j ts, Bu p x
 | [], _, _, x, hx => by simp [Gv] at hx
 | t :: ts, j, h, x, hx => by
  simp only [Gv, List.mem_cons] at hx
  rcases hx with rfl | hx
  ·have h0 := h 0 t rfl
   rw [Nat.add_zero] at h0
   cases t with
   | v y => exact .raw
   | l z es => exact .sl h0
  ·exact Tb (fun q t' hq => by have := h (q + 1) t' hq; rwa [show j + (q + 1) = j + 1 + q by omega] at this) x hx
theorem YP {p : Nat → Prop} {f : AQ} {z : Nat} {e : List T} (h : Bu p (.sl f z [e])) : ∀ x ∈ CC f 0 [e], Bu p x := fun x hx => by
 simp only [CC, List.append_nil] at hx
 cases h with
 | sl h =>
  cases h with
  | l _ h2 => exact Tb (fun q t hq => by rw [Nat.zero_add]; exact h2 0 q t (by simpa using hq)) x hx
def GH {α : Type} (e : α → List T) (z N : Nat) (g : H2) (v : X) (l : List α) : Prop :=
 (v = .raw (.slice none 0 0) ∧ l = []) ∨ ∃ b cs, v = .raw (.slice (some ⟨b, 0, none⟩) l.length l.length) ∧ N ≤ b ∧ b < hn g .mk ∧ hg g b .mk = some ⟨z, cs⟩ ∧ C9 e z cs l ∧ ∀ x ∈ cs, Bu (fun c => N ≤ c) x
theorem GH.own {α : Type} {e : α → List T} {z N : Nat} {g : H2} {v : X} {l : List α} (r : GH e z N g v l) : ∃ cs, Own N g v z l.length cs ∧ C9 e z cs l ∧ ∀ x ∈ cs, Bu (fun c => N ≤ c) x := by
 rcases r with ⟨rfl, rfl⟩ | ⟨b, cs, rfl, h1, h2, h3, h4, h5⟩
 ·exact ⟨[], Own.nil, .nil, by simp⟩
 ·exact ⟨cs, ⟨h4.2.2, .inr ⟨b, rfl, h1, h2, h3⟩⟩, h4, h5⟩
theorem GH.cell {α : Type} {e : α → List T} {z N : Nat} {g : H2} {v : X} {l : List α} (r : GH e z N g v l) : A3 v = some [v] ∧ FC v = true ∧ Bg v = false := by
 rcases r with ⟨rfl, _⟩ | ⟨b, cs, rfl, _⟩ <;> exact ⟨rfl, rfl, rfl⟩
theorem GH.lt {α : Type} {e : α → List T} {z N : Nat} {g : H2} {v : X} {l : List α} (r : GH e z N g v l) : ∀ c, AP v = some c → N ≤ c ∧ c < hn g .mk := fun c h => by
 rcases r with ⟨rfl, _⟩ | ⟨b, cs, rfl, h1, h2, _⟩
 ·cases h
 ·simp only [AP, Option.some.injEq] at h; subst h; exact ⟨h1, h2⟩
theorem GH.keep {α : Type} {e : α → List T} {z N : Nat} {g g' : H2} {v : X} {l : List α} (r : GH e z N g v l) (hn' : hn g .mk ≤ hn g' .mk) (h : ∀ c, AP v = some c → hg g' c .mk = hg g c .mk) : GH e z N g' v l := by
 rcases r with h0 | ⟨b, cs, rfl, h1, h2, h3, h4, h5⟩
 ·exact .inl h0
 ·exact .inr ⟨b, cs, rfl, h1, by omega, (h b rfl).trans h3, h4, h5⟩
theorem GH.on {α : Type} {e : α → List T} {z N : Nat} {g g' : H2} {v : X} {l : List α} {p : Option Nat} (r : GH e z N g v l) (o : AV p g g') (hN : ∀ b, p = some b → b < N) : GH e z N g' v l :=
 r.keep o.1 fun c hc => o.2 c (r.lt c hc).2 fun h => by have := hN c h; have := (r.lt c hc).1; omega
theorem GH.fz {α : Type} {e : α → List T} {z N : Nat} (he : Sx e z) {p : Nat → Prop} {g : H2} {v : X} {l : List α} (r : GH e z N g v l) (hp : ∀ b, N ≤ b → p b) : ∃ f, Fz p (fun c => N ≤ c) g v (.sl f z (l.map e)) := by
 obtain ⟨cs, o, h, h5⟩ := r.own
 have := Own.fz (p := p) (q := fun c => N ≤ c) o hp (fun c hx => by
  have ha := h5 c hx
  rcases h.2.1 c hx with ⟨n, rfl⟩ | ⟨f, k, es, rfl⟩
  ·exact .raw
  ·exact .sl ha) h.1
 rwa [Hu he] at this
theorem aa {α : Type} {e : α → List T} {z : Nat} (hE : Sx e (z + 1)) {g : H2} {K : KT} {t u U y N : Nat} {zs : List Value} {l : List α} {a : α} {v : X} {f : AQ} (he : Go.Ai.elt? P t = some (U, z + 1, y)) (hz : Go.Ai.zr? P U = some zs) (hl : zs.length = z + 1) (hu : Go.Ai.cls? P u = some .sl)
  (hy : y ≤ 1000) (hx : GH e (z + 1) N g v l) (hN : N ≤ hn g .mk) (hn0 : l.length ≤ 1048576) (hall : Bu (fun c => N ≤ c) (.sl f (z + 1) [e a]))
  (hk : ∀ v' g', GH e (z + 1) N g' v' (l ++ [a]) → AP v' = some (hn g .mk + 1) → hn g' .mk = hn g .mk + 2 → (∀ c, c < hn g .mk → AP v ≠ some c → hg g' c .mk = hg g c .mk) → kz K v' g' .mk) :
  az (EN P (g.up (hn g .mk + 1)) .append [t, u] [v, .sl f (z + 1) [e a]] .mk) K .mk := by
 obtain ⟨cs, ow, hc, h5⟩ := hx.own
 have h2 : C9 e (z + 1) (CC f 0 ([a].map e)) [a] := Oy hE
 refine CJ (z := z) (N := N) (news := CC f 0 ([a].map e)) he hz hl hu (Own.keep ow (AK (H2.le.refl _) (Nat.le_succ (hn g .mk)))) ?_ (by have := h2.2.2; simpa using this) h2.ok ?_ ?_
 ·simp only [E0, if_true, List.map_cons, List.map_nil, List.length_cons, List.length_nil]
 ·have : Go.Ai.most = 1099511627776 := rfl
  have : (l.length + 1) * (y + 1) ≤ 1048577 * 1001 := Nat.mul_le_mul (by omega) (by omega)
  omega
 intro g' h3 h4 h6
 rw [AF] at h3 h4
 refine hk _ g' (.inr ⟨hn g .mk + 1, _, by rw [List.length_append]; rfl, by omega, by omega, h3, hc.app h2, fun x hx2 => ?_⟩) rfl h4 fun c h7 h8 => h6 c (by rw [AF]; omega) h8
 rcases List.mem_append.1 hx2 with h | h
 ·exact h5 x h
 ·exact YP hall x h
theorem Og {F : Nat → AQ} {m : AM} {b : Nat} {r s : Int} {f : AQ} {x : List Int} {i k : Nat} {g : H2} (mt : Mt (some b) g r s) (ht : CA m) (hi : i < m.layers.length) (hk : (k : Int) < m.context) (hx : A5 m 1000 x) :
  PM Tryz.prog W0 108 [.st (BH F m), .raw (.int .i64 i), .raw (.int .i64 k), .sl f 1 (ints x), .raw (.pointer (some ⟨b, 0, none⟩))] g (some b) (bj (m.layers.getD i default) x r) s fun y => (∃ f1 f2, y = .tp [.sl f1 2 (Bd (Df m (m.layers.getD i default) k x)), .sl f2 2 (Bd (DY m (m.layers.getD i default) x)), .raw (.bool true)]) ∧ Bu (fun b => hn g .mk ≤ b) y := by
 refine (PM.of (q := fun b => hn g .mk ≤ b) (Q := fun y => ∃ f1 f2, y = .tp [.sl f1 2 (Bd (Df m (m.layers.getD i default) k x)), .sl f2 2 (Bd (DY m (m.layers.getD i default) x)), .raw (.bool true)]) mt ?_).mono fun y ⟨h1, h2⟩ => ⟨h1, h2.imp fun b hb => hb.elim id id⟩
 have hlay := ht.lay i hi
 obtain ⟨y1, y2, y3, y4, y5, y6, y7, y8, y9⟩ := Lz hlay
 have hg1 := HJ y1
 have hl := hx.len ht
 have hh : A5 m 127 (Ah x (m.layers.getD i default).gain1) := hx.norm
 have hhl := hh.len ht
 have hkm := Cz y5
 have hvm := Cz y6
 have hd := ht.dim
 have ht2 := EZ ht.turns
 obtain ⟨s1, s2, s3, s4, s5, s6, s7⟩ := FV ht
 have hnat := He ht
 have hpl := ht2.2.2.2.2 k hk
 rw [s4] at hpl
 have hkv : A5 m 127 (Ad (m.layers.getD i default).k (Ah x (m.layers.getD i default).gain1)) := A5.app y5 ht
 have hkl := hkv.len ht
 have htv : A5 m 127 (DW m k (Ad (m.layers.getD i default).k (Ah x (m.layers.getD i default).gain1))) := A5.turn hkv
 have hvv : A5 m 127 (Ad (m.layers.getD i default).v (Ah x (m.layers.getD i default).gain1)) := A5.app y6 ht
 have htl := htv.len ht
 have hvl := hvv.len ht
 have hz : (m.heads == 0) = false := by rw [beq_eq_false_iff_ne]; have := ht.heads; omega
 have wsz := AX (x := (AW m : Int)) (by omega)
 refine AH [[0, 1, 2, 3, 4], [1, 2, 3, 4, 5], [2, 3, 4, 5, 13], [2, 4, 5, 13, 14, 15], [], [2, 4, 5, 13, 14], [2, 4, 5, 13, 14], [2, 5, 13, 14], [2, 5, 13, 14, 16], [2, 5, 16, 18], [5, 16, 18], [5, 18, 20], [5, 20, 22], [5, 20, 22, 24], [5, 20, 22, 24, 25], [5, 20, 22, 24, 25, 26], [5, 20, 22, 24, 25, 26], [5, 20, 22, 24, 25, 26], [5, 20, 22, 24, 25, 26, 27], [5, 20, 22, 24, 25, 26, 27, 29], [5, 20, 22, 24, 25, 26, 29], [24, 25]] Tryz.func108 rfl (rs := [.tmp 10, .tmp 11, .tmp 12]) rfl rfl ?_
 intro wf
 have hne : (hn g .mk == hn g .mk + 1) = false := by simp
 have p1 := mt.ne (c := hn g .mk) (Nat.le_refl _)
 have p2 := mt.ne (c := hn g .mk + 1) (by omega)
 refine DC hi ?_
 refine AD (TI.pw (JV hx.2 (by omega) (by omega) (by omega) hg1.2.1)) ?_
 rintro _ n1 hn1 ⟨⟨f1, rfl⟩, _⟩
 simp only [AB, AG] at hn1
 refine zh ?_
 refine JX (by exact Mt.up (Mt.put (mt.push.push) p2) (by simp only [AB, AG]; omega)) (fun mt1 => Ek (F := fun j => under (under (F 5) i) (j + 6)) mt1 hkm.1 (by omega) hh.2) ?_
 rintro _ n2 hn2 mt2 on2 rfl
 simp only [AF] at hn2
 repeat (first | rw [ko] | rw [kr] | simp -dsimp -implicitDefEqProofs only [go_sem, sQ1, Av, BZ p2])
 refine JX (by exact mt2) (fun mt2 => Ek (F := fun j => under (under (F 5) i) (j + 11)) mt2 hvm.1 (by omega) hh.2) ?_
 rintro _ n3 hn3 mt3 on3 rfl
 simp only [AF] at hn3
 repeat (first | rw [ko] | rw [kr] | simp -dsimp -implicitDefEqProofs only [go_sem, sQ1, Av, BZ p2])
 refine AD (TI.pw (Ef (F := fun j => under (under (F 5) i) (j + 6)) hkm.1 (by omega) hh.2)) ?_
 rintro _ n4 hn4 ⟨⟨f4, rfl⟩, _⟩
 simp only [AF] at hn4
 repeat (first | rw [ko] | rw [kr] | simp -dsimp -implicitDefEqProofs only [go_sem, sQ1, Av, BZ p2])
 refine AD (TI.pw (Ef (F := fun j => under (under (F 5) i) (j + 11)) hvm.1 (by omega) hh.2)) ?_
 rintro _ n5 hn5 ⟨⟨f5, rfl⟩, _⟩
 simp only [AF] at hn5
 refine zh ?_
 refine AO [(0, []), (1, []), (2, []), (3, []), (4, []), (5, []), (6, []), (7, []), (8, []), (9, []), (10, []), (11, []), (12, []), (13, [])] (by kernel_rfl) ?_
 repeat (first | rw [ko] | rw [kr] | simp -dsimp -implicitDefEqProofs only [go_sem, sQ1, Av, hne, BZ p1, hz, s3, wsz])
 refine AD (TI.pw (KY (F := fun j => F (j + 12)) (t := m.turns) (hd := AW m) s1 (by have := hkv.1; rw [this, ← s2, Nat.mul_mod_left]) (by omega) hkv.2 (by omega) (by omega) (by omega) (by omega) (by omega) hpl.1.2 hpl.2.2)) ?_
 rintro y n6 hn6 ⟨⟨f6, hy⟩, _⟩
 obtain rfl : y = .tp [.sl f6 1 (ints (DW m k (Ad (m.layers.getD i default).k (Ah x (m.layers.getD i default).gain1)))), .raw (.bool true)] := hy
 simp only [AF] at hn6
 try (rw [kq]; refine ⟨AL, ?_⟩)
 repeat (first | rw [ko] | rw [kr] | simp -dsimp -implicitDefEqProofs only [go_sem, sQ1, Av, hne, BZ p1])
 refine AD (MW hnat (n := m.heads.toNat) (size := AW m) (by omega) (by omega) (by rw [htv.1, s2]) (by omega)) ?_
 rintro _ n7 hn7 ⟨f7, rfl⟩
 simp only [AF] at hn7
 repeat (first | rw [ko] | rw [kr] | simp -dsimp -implicitDefEqProofs only [go_sem, sQ1, Av, hne, BZ p1])
 refine AD (MW hnat (n := m.heads.toNat) (size := AW m) (by omega) (by omega) (by rw [hvv.1, s2]) (by omega)) ?_
 rintro _ n8 hn8 ⟨f8, rfl⟩
 simp only [AF] at hn8
 have nk : (Df m (m.layers.getD i default) k x).length = m.heads.toNat := by simp [Df]
 have nv : (DY m (m.layers.getD i default) x).length = m.heads.toNat := by simp [DY]
 have hNp : ∀ c, (some b : Option Nat) = some c → c < hn g .mk + 2 := fun c e => by have := (mt c e).1; omega
 have q0 : (some b : Option Nat) ≠ some (hn g .mk) := fun e => by have := (mt _ e).1; omega
 have e8 : (hn g .mk == n8) = false := Cw
 have e9 : (hn g .mk == n8 + 1) = false := Cw
 have e10 : (n8 == n8 + 1) = false := by simp
 refine zh ?_
 refine AJ [5, 20, 22] (fun mm e h' => ∃ (j : Nat) (v4 v5 : X), AV (some b) g h' ∧ hn g .mk + 2 ≤ hn h' .mk ∧ Mt (some b) h' (bj (m.layers.getD i default) x r) s ∧ hg h' (hn g .mk) .mk = some ⟨14, [.raw (.int .i64 m.dim), .raw (.int .i64 m.heads), .raw (.int .i64 m.context), .sl (F 3) 2 (AY m.merges), .sl (F 4) 1 (AE m.embed), .sl (F 5) 32 (Af m.layers), .sl (F 6) 1 (ints m.gainEnd), .raw (.int .i64 m.head.width), .sl (F 8) 1 (AE m.head.rows), .sl (F 9) 1 (AE m.head.scales), .raw (.int .i64 m.head.mul), .raw (.int .i64 m.head.shift), .sl (F 12) 1 (AE m.turns.cos), .sl (F 13) 1 (AE m.turns.sin)]⟩ ∧ look e 26 .mk = .raw (.int .i64 (j : Nat)) ∧ look e 24 .mk = v4 ∧ look e 25 .mk = v5 ∧ mm + j = m.heads.toNat ∧ GH Ev 2 (hn g .mk + 2) h' v4 ((Df m (m.layers.getD i default) k x).take j) ∧ GH Ev 2 (hn g .mk + 2) h' v5 ((DY m (m.layers.getD i default) x).take j) ∧ ∀ c, AP v4 = some c → AP v5 ≠ some c) m.heads.toNat ?_ ?_
 ·refine ⟨0, _, _, AV.push (AV.push (AV.up (AV.up (AV.up (AV.up (AV.up (AV.trans (AV.trans (AV.up (AV.put (AV.push (AV.push AV.refl)) (by omega)) (by simp only [AB, AG]; omega)) on2) on3) (by simp only [AF]; omega)) (by simp only [AF]; omega)) (by simp only [AF]; omega)) (by simp only [AF]; omega)) (by simp only [AF]; omega))), by simp only [AB, AF]; omega, Mt.push (Mt.push (Mt.up (Mt.up (Mt.up (Mt.up (Mt.up mt3 (by simp only [AF]; omega)) (by simp only [AF]; omega)) (by simp only [AF]; omega)) (by simp only [AF]; omega)) (by simp only [AF]; omega))), by simp -dsimp -implicitDefEqProofs only [go_sem, Av, hne, e8, e9, BZ p1], AL, by simp -dsimp -implicitDefEqProofs only [go_sem] <;> rfl, by simp -dsimp -implicitDefEqProofs only [go_sem] <;> rfl, by omega, .inr ⟨n8, [], rfl, by omega, by simp only [AB, AF]; omega, by simp -dsimp -implicitDefEqProofs only [go_sem, Av, e10], .nil, by simp⟩, .inr ⟨n8 + 1, [], rfl, by omega, by simp only [AB, AF]; omega, by simp -dsimp -implicitDefEqProofs only [go_sem, Av], .nil, by simp⟩, fun c h1 h2 => ?_⟩
  simp only [AP, Option.some.injEq] at h1 h2
  omega
 rintro mm e h' hks ⟨j, v4, v5, onL, nn, mtL, row, ej, e4, e5, hm, r4, r5, hd45⟩
 simp -dsimp -implicitDefEqProofs only [go_sem, sQ1] at hks
 have c4 := r4.cell
 have c5 := r5.cell
 have lk : (Bq (DW m k (Ad (m.layers.getD i default).k (Ah x (m.layers.getD i default).gain1))) (AW m) m.heads.toNat).length = m.heads.toNat := CM
 have lv : (Bq (Ad (m.layers.getD i default).v (Ah x (m.layers.getD i default).gain1)) (AW m) m.heads.toNat).length = m.heads.toNat := CM
 by_cases q1 : (j : Int) < m.heads
 ·have q2 : j < m.heads.toNat := by omega
  have w1 := BE j (by omega)
  obtain ⟨hk1, hk2⟩ := GV htv ht q2
  obtain ⟨hv1, hv2⟩ := GV hvv ht q2
  have hatk := Eg (x := DW m k (Ad (m.layers.getD i default).k (Ah x (m.layers.getD i default).gain1))) (s := AW m) q2
  have hatv := Eg (x := Ad (m.layers.getD i default).v (Ah x (m.layers.getD i default).gain1)) (s := AW m) q2
  repeat (first | rw [ko] | rw [kr] | simp -dsimp -implicitDefEqProofs only [go_sem, sQ1, hks, ej, e4, e5, q1, q2, row, lk, hatk])
  refine AD (KR hk2 (by omega) (by omega)) ?_
  rintro _ na hna ⟨⟨Fa, rfl⟩, alla⟩
  refine bW q2 lv hatv ?_
  refine AD (KR hv2 (by omega) (by omega)) ?_
  rintro _ nb hnb ⟨⟨Fb, rfl⟩, allb⟩
  simp only [AF, AB, AG] at hnb alla allb
  have eab : (na == nb) = false := Cw
  have eab2 : (nb == na) = false := Cw
  refine DC eab ?_
  have leS : h'.le _ := CF (b := nb) (k := ⟨2, JE Fb (EO (A2 (Ad (m.layers.getD i default).v (Ah x (m.layers.getD i default).gain1)) (AW m) j))⟩) (le_push (k := ⟨2, [.raw (.int .i64 0), .raw (.slice none 0 0)]⟩) (AK (n := nb) (CF (b := na) (k := ⟨2, JE Fa (EO (A2 (DW m k (Ad (m.layers.getD i default).k (Ah x (m.layers.getD i default).gain1))) (AW m) j))⟩) (le_push (k := ⟨2, [.raw (.int .i64 0), .raw (.slice none 0 0)]⟩) (AK (H2.le.refl h') hna)) hna) (by simp only [AG, AB, AF]; omega))) (by omega)
  have pa := TM alla
  have pb := TM allb
  refine aa (P := Tryz.prog) (N := hn g .mk + 2) (a := EO (A2 (DW m k (Ad (m.layers.getD i default).k (Ah x (m.layers.getD i default).gain1))) (AW m) j)) aw Go.Ai.ty_el156 Go.Ai.ty_zr196 rfl Go.Ai.ty_cl156 (by omega) (r4.keep leS.1 fun c hc => leS.2 c (r4.lt c hc).2) (by simp only [AG, AB, AF]; omega) (by rw [List.length_take]; omega) (PH (n := 1) (z := 2) (ts := Ev (EO (A2 (DW m k (Ad (m.layers.getD i default).k (Ah x (m.layers.getD i default).gain1))) (AW m) j))) rfl rfl (by omega) (fun x hx => by
   simp only [List.mem_cons, List.not_mem_nil, or_false] at hx
   rcases hx with rfl | rfl
   ·exact .inl ⟨_, rfl⟩
   ·exact .inr ⟨_, _, _, rfl, pa.imp fun c hc => by omega⟩)) ?_
  intro v6 g6 r6 bo6 n6 fr6
  simp only [AG, AB, AF] at bo6 n6 fr6
  have row6 : hg g6 nb .mk = _ := (fr6 nb (by omega) (fun e => by have := (r4.lt _ e).2; omega)).trans (by simp -dsimp -implicitDefEqProofs only [go_sem, Av] <;> rfl)
  have r56 := r5.keep (g' := g6) (by omega) fun c hc => (fr6 c (by have := (r5.lt c hc).2; omega) (fun e => hd45 c e hc)).trans (leS.2 c (r5.lt c hc).2)
  have c6 := r6.cell
  refine A1 row6 ?_
  refine aa (P := Tryz.prog) (N := hn g .mk + 2) (a := EO (A2 (Ad (m.layers.getD i default).v (Ah x (m.layers.getD i default).gain1)) (AW m) j)) aw Go.Ai.ty_el156 Go.Ai.ty_zr196 rfl Go.Ai.ty_cl156 (by omega) r56 (by omega) (by rw [List.length_take]; omega) (PH (n := 1) (z := 2) (ts := Ev (EO (A2 (Ad (m.layers.getD i default).v (Ah x (m.layers.getD i default).gain1)) (AW m) j))) rfl rfl (by omega) (fun x hx => by
   simp only [List.mem_cons, List.not_mem_nil, or_false] at hx
   rcases hx with rfl | rfl
   ·exact .inl ⟨_, rfl⟩
   ·exact .inr ⟨_, _, _, rfl, pb.imp fun c hc => by omega⟩)) ?_
  intro v7 g7 r7 bo7 n7 fr7
  have r67 := r6.keep (g' := g7) (by omega) fun c hc => fr7 c (by have := (r6.lt c hc).2; omega) (fun e => by
   rw [bo6] at hc
   cases hc
   have := (r5.lt _ e).2
   omega)
  have on7 : ∀ c, c < hn g .mk + 2 → hg g7 c .mk = hg h' c .mk := fun c hc => (fr7 c (by omega) (fun e => by have := (r5.lt c e).1; omega)).trans ((fr6 c (by omega) (fun e => by have := (r4.lt c e).1; omega)).trans (leS.2 c (by omega)))
  have c7 := r7.cell
  have ek : (Df m (m.layers.getD i default) k x).take (j + 1) = (Df m (m.layers.getD i default) k x).take j ++ [EO (A2 (DW m k (Ad (m.layers.getD i default).k (Ah x (m.layers.getD i default).gain1))) (AW m) j)] := B0 q2
  have ev : (DY m (m.layers.getD i default) x).take (j + 1) = (DY m (m.layers.getD i default) x).take j ++ [EO (A2 (Ad (m.layers.getD i default).v (Ah x (m.layers.getD i default).gain1)) (AW m) j)] := B0 q2
  rw [← ek] at r67
  rw [← ev] at r7
  refine A1 w1 ?_
  exact AI (mm - 1) (by omega) AL ⟨j + 1, v6, v7, AV.below onL (by omega) (by omega) on7, by omega, Mt.below mtL hNp (by omega) on7, (on7 _ (by omega)).trans row, AL, AL, AL, by omega, r67, r7, fun c h1 h2 => by rw [bo6, Option.some.injEq] at h1; rw [bo7, Option.some.injEq] at h2; omega⟩
 ·repeat (first | rw [ko] | rw [kr] | simp -dsimp -implicitDefEqProofs only [go_sem, sQ1, hks, ej, e4, e5, q1, row, c4, c5])
  have hj : j = (Df m (m.layers.getD i default) k x).length := by omega
  have hj2 : j = (DY m (m.layers.getD i default) x).length := by omega
  rw [hj, List.take_length] at r4
  rw [hj2, List.take_length] at r5
  obtain ⟨fa, hfa⟩ := r4.fz aw (p := fun c => hn g .mk ≤ c) (fun c hc => by omega)
  obtain ⟨fb, hfb⟩ := r5.fz aw (p := fun c => hn g .mk ≤ c) (fun c hc => by omega)
  exact ⟨onL, mtL, _, iC (hfa.imp (fun _ h => h) fun c hc => by omega) (hfb.imp (fun _ h => h) fun c hc => by omega) .raw, fa, fb, rfl⟩
end Go.Bi
end
section
set_option maxRecDepth 20000
namespace Go.Bi
open Go.Proofs
open Go.Ai (wrap_i64 wrap_u64 wrap_u8 Heap)
variable {W0 : World} {P : Program}
set_option maxHeartbeats 8000000
theorem A5.rng {m : AM} {b : Int} {x : List Int} (h : A5 m b x) (ht : CA m) : (4 ≤ x.length ∧ x.length ≤ 8) ∧ (x.length : Int) = m.dim := by
 have := h.len ht
 omega
theorem TK {q : Nat → Prop} : Bu q (.tp []) := .tp fun x hx => by cases hx
theorem XQ {F : Nat → AQ} {m : AM} {b : Nat} {r s : Int} {f f2 f3 : AQ} {x : List Int} {ks vs : List (List At)} {i k : Nat} {g : H2} (mt : Mt (some b) g r s) (ht : CA m) (hi : i < m.layers.length) (hk : (k : Int) < m.context) (hx : A5 m 1000 x) (hks0 : B7 m ks) (hvs : B7 m vs) (hlk : vs.length = ks.length) (hk1 : 1 ≤ ks.length) (hk32 : ks.length ≤ 32) :
  MI Tryz.prog W0 109 [.st (BH F m), .raw (.int .i64 i), .raw (.int .i64 k), .sl f 1 (ints x), .sl f2 1 (An ks), .sl f3 1 (An vs), .raw (.pointer (some ⟨b, 0, none⟩))] g (some b) (NI m (m.layers.getD i default) k x ks vs r) (Qb m (m.layers.getD i default) k x ks s) (Mh m (m.layers.getD i default) k x ks vs) := by
 have hlay := ht.lay i hi
 obtain ⟨y1, y2, y3, y4, y5, y6, y7, y8, y9⟩ := Lz hlay
 have y3 : 4 ≤ (m.layers.getD i default).up.rows.length ∧ (m.layers.getD i default).up.rows.length ≤ 8 := by omega
 have hg1 := HJ y1
 have hg2 := HJ y2
 have hl := hx.rng ht
 have hh : A5 m 127 (Ah x (m.layers.getD i default).gain1) := hx.norm
 have hhl := hh.rng ht
 have hqm := Cz y4
 have hom := Cz y7
 have hum := Cz y8
 have hdm := Cz y9
 have ht2 := EZ ht.turns
 obtain ⟨s1, s2, s3, s4, s5, s6, s7⟩ := FV ht
 have hnat := He ht
 have hpl := ht2.2.2.2.2 k hk
 rw [s4] at hpl
 have hqv : A5 m 127 (Ad (m.layers.getD i default).q (Ah x (m.layers.getD i default).gain1)) := A5.app y4 ht
 have hql := hqv.rng ht
 obtain ⟨q, hqe⟩ : ∃ q, DW m k (Ad (m.layers.getD i default).q (Ah x (m.layers.getD i default).gain1)) = q := ⟨_, rfl⟩
 have hq : A5 m 127 q := by rw [← hqe]; exact A5.turn hqv
 have hqq := hq.rng ht
 have hz : (m.heads == 0) = false := by rw [beq_eq_false_iff_ne]; have := ht.heads; omega
 have wsz := AX (x := (AW m : Int)) (by omega)
 have hNp : ∀ c, (some b : Option Nat) = some c → c < hn g .mk + 2 := fun c e => by have := (mt c e).1; omega
 have q0 : (some b : Option Nat) ≠ some (hn g .mk) := fun e => by have := (mt _ e).1; omega
 have q0' : (some b : Option Nat) ≠ some (hn g .mk + 1) := fun e => by have := (mt _ e).1; omega
 refine AH [[0, 1, 2, 3, 4, 5, 6], [1, 2, 3, 4, 5, 6, 7], [2, 3, 4, 5, 6, 7, 16], [2, 3, 4, 5, 6, 7, 16, 17, 18], [], [2, 3, 4, 5, 6, 7, 16, 17], [2, 3, 4, 5, 6, 7, 16, 17], [2, 3, 4, 5, 6, 7, 16, 19], [3, 4, 5, 6, 7, 16, 19], [3, 4, 5, 6, 7, 16, 21], [3, 4, 5, 6, 7, 16, 21, 23], [3, 4, 5, 6, 7, 16, 21, 23, 24], [3, 4, 5, 6, 7, 16, 21, 23, 24], [3, 4, 5, 6, 7, 16, 21, 23, 24], [3, 4, 5, 6, 7, 16, 21, 23, 24, 25], [3, 4, 5, 6, 7, 16, 21, 23, 24, 25, 26], [3, 4, 5, 6, 7, 16, 21, 23, 24, 25, 26], [3, 4, 5, 6, 7, 16, 21, 23, 24, 25, 26], [3, 4, 5, 6, 7, 16, 21, 23, 24, 25, 26, 27], [3, 4, 5, 6, 7, 16, 21, 23, 24, 25, 26, 27], [3, 4, 5, 6, 7, 16, 21, 23, 24, 25], [3, 4, 5, 6, 7, 16, 21, 23, 24, 29], [3, 6, 16, 23], [3, 6, 16, 23], [3, 6, 16, 31], [3, 6, 16], [3, 6, 16, 17], [3, 6, 16, 17], [3, 6, 16, 33], [3, 6, 16, 33, 35], [3, 6, 16, 33, 35], [3, 6, 16, 33, 35], [3, 6, 16, 33], [3, 16, 33], [3, 36]] Tryz.func109 rfl (rs := [.tmp 14, .tmp 15]) rfl rfl ?_
 intro wf
 have hne : (hn g .mk == hn g .mk + 1) = false := by simp
 have p1 := mt.ne (c := hn g .mk) (Nat.le_refl _)
 have p2 := mt.ne (c := hn g .mk + 1) (by omega)
 refine DC hi ?_
 refine AD (TI.pw (JV hx.2 (by omega) (by omega) (by omega) hg1.2.1)) ?_
 rintro _ n1 hn1 ⟨⟨f4, rfl⟩, _⟩
 simp only [AB, AG] at hn1
 refine zh ?_
 refine JX (by exact Mt.up (Mt.put (mt.push.push) p2) (by simp only [AB, AG]; omega)) (fun mt1 => Ek (F := fun j => under (under (F 5) i) (j + 1)) mt1 hqm.1 (by omega) hh.2) ?_
 rintro _ n2 hn2 mt2 on2 rfl
 simp only [AF] at hn2
 repeat (first | rw [ko] | rw [kr] | simp -dsimp -implicitDefEqProofs only [go_sem, sQ1, Av, BZ p2])
 refine AD (TI.pw (Ef (F := fun j => under (under (F 5) i) (j + 1)) hqm.1 (by omega) hh.2)) ?_
 rintro _ n3 hn3 ⟨⟨f5, rfl⟩, _⟩
 simp only [AF] at hn3
 refine zh ?_
 refine AO [(0, []), (1, []), (2, []), (3, []), (4, []), (5, []), (6, []), (7, []), (8, []), (9, []), (10, []), (11, []), (12, []), (13, [])] (by kernel_rfl) ?_
 repeat (first | rw [ko] | rw [kr] | simp -dsimp -implicitDefEqProofs only [go_sem, sQ1, Av, hne, BZ p1, hz, s3, wsz])
 refine AD (TI.pw (KY (F := fun j => F (j + 12)) (t := m.turns) (hd := AW m) s1 (by have := hqv.1; rw [this, ← s2, Nat.mul_mod_left]) (by omega) hqv.2 (by omega) (by omega) (by omega) (by omega) (by omega) hpl.1.2 hpl.2.2)) ?_
 rintro y n4 hn4 ⟨⟨f6, hy⟩, _⟩
 obtain rfl : y = .tp [.sl f6 1 (ints q), .raw (.bool true)] := by rw [← hqe]; exact hy
 simp only [AF] at hn4
 try (rw [kq]; refine ⟨AL, ?_⟩)
 repeat (first | rw [ko] | rw [kr] | simp -dsimp -implicitDefEqProofs only [go_sem, sQ1, Av, hne, BZ p1])
 refine AD (MW hnat (n := m.heads.toNat) (size := AW m) (by omega) (by omega) (by rw [hq.1, s2]) (by omega)) ?_
 rintro _ n5 hn5 ⟨f7, rfl⟩
 simp only [AF] at hn5
 have e8 : (hn g .mk == n5) = false := Cw
 have e9 : (hn g .mk + 1 == n5) = false := Cw
 have lq : (Bq q (AW m) m.heads.toNat).length = m.heads.toNat := CM
 refine zh ?_
 refine AJ [3, 4, 5, 6, 7, 16, 21] (fun mm e h' => ∃ (j : Nat) (v : X), AV (some b) g h' ∧ hn g .mk + 2 ≤ hn h' .mk ∧ Mt (some b) h' (Au r (Az (m.layers.getD i default).q (Ah x (m.layers.getD i default).gain1))) (Ge m q ks s j) ∧ hg h' (hn g .mk) .mk = some ⟨14, [.raw (.int .i64 m.dim), .raw (.int .i64 m.heads), .raw (.int .i64 m.context), .sl (F 3) 2 (AY m.merges), .sl (F 4) 1 (AE m.embed), .sl (F 5) 32 (Af m.layers), .sl (F 6) 1 (ints m.gainEnd), .raw (.int .i64 m.head.width), .sl (F 8) 1 (AE m.head.rows), .sl (F 9) 1 (AE m.head.scales), .raw (.int .i64 m.head.mul), .raw (.int .i64 m.head.shift), .sl (F 12) 1 (AE m.turns.cos), .sl (F 13) 1 (AE m.turns.sin)]⟩ ∧ hg h' (hn g .mk + 1) .mk = some ⟨32, C1 (fun j => under (under (F 5) i) j) (m.layers.getD i default)⟩ ∧ look e 24 .mk = .raw (.int .i64 (j : Nat)) ∧ look e 23 .mk = v ∧ mm + j = m.heads.toNat ∧ Al (hn g .mk + 2) h' v (VP m q ks vs j)) m.heads.toNat ?_ ?_
 ·refine ⟨0, _, AV.push (AV.up (AV.up (AV.up (AV.trans (AV.up (AV.put (AV.push (AV.push AV.refl)) (by omega)) (by simp only [AB, AG]; omega)) on2) (by simp only [AF]; omega)) (by simp only [AF]; omega)) (by simp only [AF]; omega)), by simp only [AB, AF]; omega, Mt.push (Mt.up (Mt.up (Mt.up mt2 (by simp only [AF]; omega)) (by simp only [AF]; omega)) (by simp only [AF]; omega)), by simp -dsimp -implicitDefEqProofs only [go_sem, Av, hne, e8, BZ p1], by simp -dsimp -implicitDefEqProofs only [go_sem, Av, e9, BZ p2] <;> rfl, AL, by simp -dsimp -implicitDefEqProofs only [go_sem] <;> rfl, by omega, Own.new (by simp only [AF]; omega) rfl⟩
 rintro mm e h' hks ⟨j, v, onL, nn, mtL, r1, r2, ej, ev, hm, ow⟩
 simp -dsimp -implicitDefEqProofs only [go_sem, sQ1] at hks
 have hv := AT ow
 by_cases q1 : (j : Int) < m.heads
 ·have q2 : j < m.heads.toNat := by omega
  have w1 := BE j (by omega)
  obtain ⟨hh1, hh2⟩ := GV hq ht q2
  have hat := Eg (x := q) (s := AW m) q2
  have hpl2 := QI (ks := ks) (vs := vs) ht hq (Nat.le_of_lt q2)
  have hok := Fe ht hks0 q2
  have hov := Fe ht hvs q2
  have hj8 : j * AW m ≤ 16 := by
   have := Nat.mul_le_mul (show j ≤ 2 by omega) (show AW m ≤ 8 by omega)
   omega
  refine FD hks ej ev q1 r1 ?_
  refine AD (LG (ks := ks) (I5 ht hks0 q2) (by omega)) ?_
  rintro _ n6 hn6 ⟨f8, rfl⟩
  refine zr ?_
  refine AJ [3, 4, 5, 6, 7, 16, 21, 23, 24, 25] (fun m2 e2 h2 => ∃ (l : Nat), AV (some b) h' h2 ∧ Mt (some b) h2 (Au r (Az (m.layers.getD i default).q (Ah x (m.layers.getD i default).gain1))) (Au (Ge m q ks s j) (((Aa ks j).map (BI (A2 q (AW m) j))).take l)) ∧ look e2 26 .mk = .raw (.int .i64 (l : Nat)) ∧ m2 + l = ks.length) ks.length ?_ ?_
  ·exact ⟨0, AV.up AV.refl hn6, Mt.up mtL hn6, AL, by omega⟩
  rintro m2 e2 h2 hks2 ⟨l, on2', mt2', el, hm2⟩
  simp -dsimp -implicitDefEqProofs only [go_sem, sQ1] at hks2
  have hok1 := hok.1
  by_cases p1' : (l : Int) < (ks.length : Int)
  ·have p2' : l < ks.length := by omega
   have p3 : l < (Aa ks j).length := by omega
   have p4 : l < ((Aa ks j).map (BI (A2 q (AW m) j))).length := by rw [List.length_map]; exact p3
   have w2 := BE l (by omega)
   have hkl := FR ht hks0 q2 _ (BG p3)
   have sc := Ht hh2 hkl.2 (by omega)
   have eg := Ih (n := Ge m q ks s j) p4
   have esc : ((Aa ks j).map (BI (A2 q (AW m) j))).getD l default = BI (A2 q (AW m) j) ((Aa ks j).getD l default) := by
    rw [List.getD_eq_getElem?_getD, List.getElem?_map, List.getElem?_eq_getElem p3, List.getD_eq_getElem?_getD, List.getElem?_eq_getElem p3]
    rfl
   rw [esc] at eg
   obtain ⟨hb, mrow⟩ := mt2' b rfl
   unfold E7 at mrow
   repeat (first | rw [ko] | rw [kr] | simp -dsimp -implicitDefEqProofs only [go_sem, sQ1, hks2, el, p1', hok1])
   refine AO [(0, []), (1, []), (2, []), (3, []), (4, []), (5, []), (6, []), (7, []), (8, []), (9, []), (10, []), (11, []), (12, []), (13, [])] (by kernel_rfl) ?_
   refine FD p2' q2 lq hat hok1 ?_
   refine AD (Na (q := A2 q (AW m) j) hh2 hkl.2 (by omega) (by omega) (by omega)) ?_
   rintro _ n7 hn7 rfl
   refine zr ?_
   refine AO [(0, []), (2, []), (3, []), (4, []), (5, []), (1, [5]), (6, [])] (by kernel_rfl) ?_
   refine A1 mrow ?_
   refine AA (Iu (by omega)) ?_
   rintro _ _ ⟨rfl, rfl⟩
   by_cases q4 : max (BI (A2 q (AW m) j) ((Aa ks j).getD l default)) (-BI (A2 q (AW m) j) ((Aa ks j).getD l default)) > Au (Ge m q ks s j) (((Aa ks j).map (BI (A2 q (AW m) j))).take l)
   ·have e5 : Au (Ge m q ks s j) (((Aa ks j).map (BI (A2 q (AW m) j))).take (l + 1)) = max (BI (A2 q (AW m) j) ((Aa ks j).getD l default)) (-BI (A2 q (AW m) j) ((Aa ks j).getD l default)) := by rw [eg]; omega
    refine C5 mrow q4 ?_
    refine AA (Iu (by omega)) ?_
    rintro _ _ ⟨rfl, rfl⟩
    refine C5 mrow w2 ?_
    exact AI (m2 - 1) (by omega) AL ⟨l + 1, AV.setb (AV.up on2' hn7), by rw [e5]; exact Mt.setb (by rw [AF]; omega), AL, by omega⟩
   ·have e5 : Au (Ge m q ks s j) (((Aa ks j).map (BI (A2 q (AW m) j))).take (l + 1)) = Au (Ge m q ks s j) (((Aa ks j).map (BI (A2 q (AW m) j))).take l) := by rw [eg]; omega
    refine DH mrow q4 w2 ?_
    exact AI (m2 - 1) (by omega) AL ⟨l + 1, AV.up on2' hn7, by rw [e5]; exact Mt.up mt2' hn7, AL, by omega⟩
  have hl2 : l = ((Aa ks j).map (BI (A2 q (AW m) j))).length := by rw [List.length_map]; omega
  rw [hl2, List.take_length] at mt2'
  repeat (first | rw [ko] | rw [kr] | simp -dsimp -implicitDefEqProofs only [go_sem, sQ1, hks2, el, p1', hok1])
  refine AO [(0, []), (1, []), (2, []), (3, []), (4, []), (5, []), (6, []), (7, [3]), (8, []), (9, []), (10, []), (11, []), (12, []), (13, [])] (by kernel_rfl) ?_
  refine DH q2 lq hat ?_
  refine AD (LG (ks := vs) (I5 ht hvs q2) (by omega)) ?_
  rintro _ n8 hn8 ⟨f9, rfl⟩
  try (rw [kq]; refine ⟨AL, ?_⟩)
  refine zr ?_
  refine AD (TI.pw (Sr (q := A2 q (AW m) j) (ks := Aa ks j) (vs := Aa vs j) hh2 (by omega) (by omega) (by rw [hh1]; exact FR ht hks0 q2) (by rw [hh1]; exact FR ht hvs q2) (by omega) (by omega) (by omega))) ?_
  rintro _ n9 hn9 ⟨⟨f10, rfl⟩, _⟩
  try (rw [kq]; refine ⟨AL, ?_⟩)
  refine zr ?_
  simp only [AF] at hn9
  have onS : AV (some b) h' _ := AV.up (AV.up on2' hn8) (by simp only [AF]; omega)
  have owS := Own.on ow onS mtL hNp
  have nl2 := on2'.1
  refine X7 (P := Tryz.prog) Go.Ai.ty_el25 Go.Ai.ty_zr3 Go.Ai.ty_cl25 (by omega) owS (by simp only [AF]; omega) (by rw [hpl2, Ew, hh1]; omega) ?_
  intro v4 g4 ow4 nn4 on4
  rw [← Jw] at ow4
  have r14 : hg g4 (hn g .mk) .mk = _ := (on4 (hn g .mk) (by omega)).trans ((onS.2 (hn g .mk) (by omega) q0).trans r1)
  have r24 : hg g4 (hn g .mk + 1) .mk = _ := (on4 (hn g .mk + 1) (by omega)).trans ((onS.2 (hn g .mk + 1) (by omega) q0').trans r2)
  refine A1 w1 ?_
  exact AI (mm - 1) (by omega) AL ⟨j + 1, v4, AV.below (onL.trans onS) (by omega) nn4 on4, nn4, Mt.below (Mt.up (Mt.up mt2' hn8) (by simp only [AF]; omega)) hNp nn4 on4, r14, r24, AL, AL, by omega, ow4⟩
 obtain rfl : j = m.heads.toNat := by omega
 clear hhl hql hqq s1
 obtain ⟨A, hAe⟩ : ∃ A, JI m q ks vs = A := ⟨_, rfl⟩
 have hall : A5 m 127 A := by rw [← hAe]; exact Xc ht hq
 have ow : Al (hn g .mk + 2) h' v A := by rw [← hAe]; exact ow
 have hal := hall.rng ht
 obtain ⟨O, hOe⟩ : ∃ O, Ad (m.layers.getD i default).o A = O := ⟨_, rfl⟩
 have hoI : A5 m 127 O := by rw [← hOe]; exact A5.app y7 ht
 have hol := hoI.rng ht
 obtain ⟨M, hMe⟩ : ∃ M, Jd x O = M := ⟨_, rfl⟩
 have hmid : A5 m 500 M := by rw [← hMe]; exact ⟨by rw [Hb]; exact hx.1, LX⟩
 have hml := hmid.rng ht
 obtain ⟨N2, hNe⟩ : ∃ N2, Ah M (m.layers.getD i default).gain2 = N2 := ⟨_, rfl⟩
 have hn2v : A5 m 127 N2 := by rw [← hNe]; exact hmid.norm
 have hn2l := hn2v.rng ht
 obtain ⟨U, hUe⟩ : ∃ U, Ad (m.layers.getD i default).up N2 = U := ⟨_, rfl⟩
 have hul : U.length = (m.layers.getD i default).up.rows.length := by rw [← hUe]; exact E5
 have hua : Ay 127 U := by rw [← hUe]; exact IK
 obtain ⟨D, hDe⟩ : ∃ D, Ad (m.layers.getD i default).down (U.map C6) = D := ⟨_, rfl⟩
 have hdI : A5 m 127 D := by rw [← hDe]; exact A5.app y9 ht
 have hdl := hdI.rng ht
 obtain ⟨fz, hfz⟩ := Al.fz (p := fun c => (some b : Option Nat) ≠ some c) (q := fun _ => True) ow (fun c hc e => by have := hNp c e; omega)
 refine PY hks ej ev q1 r1 r2 ?_
 refine Bm (PM.lend (.cons .raw (.cons (EI (xs := BV (fun j => under (under (F 5) i) (j + 16)) (m.layers.getD i default).o) rfl) (.cons hfz .nil))) mtL (Ek (F := fun j => under (under (F 5) i) (j + 16)) mtL.bar hom.1 (by omega) hall.2) (fun y h => by rw [h]; exact TK)) ?_
 rintro _ na hna rfl
 have mta := Mt.up (n := na) (Mt.set (r' := Au (Au r (Az (m.layers.getD i default).q (Ah x (m.layers.getD i default).gain1))) (Az (m.layers.getD i default).o A)) (s' := Ge m q ks s m.heads.toNat) mtL) (by rw [Bj]; exact hna)
 have ona : AV (some b) h' _ := AV.up (n := na) (AV.gM (r := Au (Au r (Az (m.layers.getD i default).q (Ah x (m.layers.getD i default).gain1))) (Az (m.layers.getD i default).o A)) (s := Ge m q ks s m.heads.toNat) AV.refl) (by rw [Bj]; exact hna)
 have owa := Own.on ow ona mtL hNp
 obtain ⟨Z4, hfz2⟩ := Al.lent owa
 repeat (first | rw [ko] | rw [kr] | simp -dsimp -implicitDefEqProofs only [go_sem, sQ1, r2, BZ p2])
 refine AD (PW.lend (.cons (EI (xs := BV (fun j => under (under (F 5) i) (j + 16)) (m.layers.getD i default).o) rfl) (.cons hfz2 .nil)) (TI.pw (Ef (F := fun j => under (under (F 5) i) (j + 16)) hom.1 (by omega) hall.2)) (fun y hy => hy.2)) ?_
 rintro y nb hnb ⟨⟨fb, hy⟩, _⟩
 obtain rfl : y = .tp [.sl fb 1 (ints O), .raw (.bool true)] := by rw [← hOe]; exact hy
 simp only [AF] at hnb
 refine zr ?_
 refine AD (TI.pw (TS (x := x) (y := O) hx.2 (Bz hoI.2 (by omega)) (by omega) (by omega))) ?_
 rintro y nc hnc ⟨⟨fc, hy⟩, _⟩
 obtain rfl : y = .tp [.sl fc 1 (ints M), .raw (.bool true)] := by rw [← hMe]; exact hy
 simp only [AF] at hnc
 repeat (first | rw [ko] | rw [kr] | simp -dsimp -implicitDefEqProofs only [go_sem, sQ1, r2, BZ p2])
 refine AD (TI.pw (JV (x := M) (Bz hmid.2 (by omega)) (by omega) (by omega) (by omega) hg2.2.1)) ?_
 rintro y nd hnd ⟨⟨fd, hy⟩, _⟩
 obtain rfl : y = .tp [.sl fd 1 (ints N2), .raw (.bool true)] := by rw [← hNe]; exact hy
 simp only [AF] at hnd
 repeat (first | rw [ko] | rw [kr] | simp -dsimp -implicitDefEqProofs only [go_sem, sQ1, r2, BZ p2])
 refine JX (by exact Mt.up (Mt.up (Mt.up mta (by simp only [AF]; omega)) (by simp only [AF]; omega)) (by simp only [AF]; omega)) (fun mtb => Ek (F := fun j => under (under (F 5) i) (j + 22)) mtb hum.1 (by omega) hn2v.2) ?_
 rintro _ ne hne2 mte one rfl
 simp only [AF] at hne2
 repeat (first | rw [ko] | rw [kr] | simp -dsimp -implicitDefEqProofs only [go_sem, sQ1, r2, BZ p2])
 refine AA (Ef (F := fun j => under (under (F 5) i) (j + 22)) hum.1 (by omega) hn2v.2) ?_
 rintro _ g5 ⟨l5, v5, rfl, ow5⟩
 rw [hUe] at ow5
 have nn5 := l5.1
 simp only [AF] at nn5 ow5
 have r25 : hg g5 (hn g .mk + 1) .mk = some ⟨32, C1 (fun j => under (under (F 5) i) j) (m.layers.getD i default)⟩ := (l5.2 _ (by simp only [AF]; omega)).trans (by simp -dsimp -implicitDefEqProofs only [go_sem, r2, BZ p2] <;> rfl)
 have mt5 := mte.le l5
 have on5 : AV (some b) g g5 := AV.le (AV.trans (AV.up (AV.up (AV.up (AV.trans onL ona) (by simp only [AF]; omega)) (by simp only [AF]; omega)) (by simp only [AF]; omega)) one) l5
 obtain ⟨bb, rfl, hb1, hb2, hb3⟩ := I3 ow5 (by omega)
 have hbe : (hn g .mk + 1 == bb) = false := Cw
 have pbb : ((some b : Option Nat) == some bb) = false := by
  have := hNp b rfl
  simp; omega
 refine A1 hul ?_
 refine AJ [3, 6, 16, 33] (fun m3 e3 h3 => ∃ (t : Nat), AV (some b) g h3 ∧ bb < hn h3 .mk ∧ Mt (some b) h3 (Au (Au (Au r (Az (m.layers.getD i default).q (Ah x (m.layers.getD i default).gain1))) (Az (m.layers.getD i default).o A)) (Az (m.layers.getD i default).up N2)) (Ge m q ks s m.heads.toNat) ∧ hg h3 (hn g .mk + 1) .mk = some ⟨32, C1 (fun j => under (under (F 5) i) j) (m.layers.getD i default)⟩ ∧ look e3 35 .mk = .raw (.int .i64 (t : Nat)) ∧ m3 + t = (m.layers.getD i default).up.rows.length ∧ hg h3 bb .mk = some ⟨1, (IV C6 U t).map cI⟩) (m.layers.getD i default).up.rows.length ?_ ?_
 ·exact ⟨0, on5, hb2, mt5, r25, AL, by omega, hb3⟩
 rintro m3 e3 h3 hks3 ⟨t, on3', hbn, mt3', row3, et, hm3, rowb⟩
 simp -dsimp -implicitDefEqProofs only [go_sem, sQ1] at hks3
 by_cases q5 : (t : Int) < ((m.layers.getD i default).up.rows.length : Int)
 ·have q6 : t < (m.layers.getD i default).up.rows.length := by omega
  have q7 : t < U.length := by omega
  have q8 : t < (IV C6 U t).length := by rw [O2 (by omega)]; exact q7
  have w1 := BE t (by omega)
  have hgt := eC q8
  rw [RH q7] at hgt
  have hxi := Ag (by omega) hua t
  have hwr := eH (v := C6 (U.getD t default)) q8
  rw [OP q7] at hwr
  have hi3 : (0 : Int) ≤ (t : Int) ∧ (t : Int) < ((m.layers.getD i default).up.rows.length : Int) := by omega
  repeat (first | rw [ko] | rw [kr] | simp -dsimp -implicitDefEqProofs only [go_sem, sQ1, hks3, et, q5, rowb, hgt, hi3, Int.toNat_natCast])
  refine AA (Yg hxi) ?_
  rintro _ _ ⟨rfl, rfl⟩
  repeat (first | rw [ko] | rw [kr] | simp -dsimp -implicitDefEqProofs only [go_sem, sQ1, q5, rowb, hwr, w1, hi3, Int.toNat_natCast])
  exact AI (m3 - 1) (by omega) AL ⟨t + 1, AV.put on3' (by omega), hbn, mt3'.put pbb, by simp -dsimp -implicitDefEqProofs only [go_sem, hbe, row3], AL, by omega, by simp -dsimp -implicitDefEqProofs only [go_sem, Av]⟩
 have htl : t = U.length := by omega
 rw [htl, N1] at rowb
 have owu : Al bb h3 (.raw (.slice (some ⟨bb, 0, none⟩) U.length U.length)) (U.map C6) := JJ (by rw [List.length_map]) (Nat.le_refl _) hbn rowb
 rw [hul] at owu
 obtain ⟨fu, hfu⟩ := Al.fz (p := fun c => (some b : Option Nat) ≠ some c) (q := fun _ => True) owu (fun c hc e => by have := hNp c e; omega)
 have hbl : ((U.map C6).length : Int) = ((m.layers.getD i default).up.rows.length : Int) := by rw [List.length_map]; omega
 refine Cu hks3 et q5 row3 ?_
 refine Bm (PM.lend (.cons .raw (.cons (EI (xs := BV (fun j => under (under (F 5) i) (j + 27)) (m.layers.getD i default).down) rfl) (.cons hfu .nil))) mt3' (Ek (F := fun j => under (under (F 5) i) (j + 27)) mt3'.bar hdm.1 (by omega) (Lx hua)) (fun y h => by rw [h]; exact TK)) ?_
 rintro _ nf hnf rfl
 have onf : AV (some b) h3 _ := AV.up (n := nf) (AV.gM (r := NI m (m.layers.getD i default) k x ks vs r) (s := Ge m q ks s m.heads.toNat) AV.refl) (by rw [Bj]; exact hnf)
 have eR : NI m (m.layers.getD i default) k x ks vs r = Au (Au (Au (Au r (Az (m.layers.getD i default).q (Ah x (m.layers.getD i default).gain1))) (Az (m.layers.getD i default).o A)) (Az (m.layers.getD i default).up N2)) (Az (m.layers.getD i default).down (U.map C6)) := by
  unfold NI Yo Kf
  rw [hqe, hAe, hOe, hMe, hNe, hUe]
 have eS : Qb m (m.layers.getD i default) k x ks s = Ge m q ks s m.heads.toNat := by unfold Qb; rw [hqe]
 have eI : Mh m (m.layers.getD i default) k x ks vs = Jd M D := by
  unfold Mh Kf
  rw [hqe, hAe, hOe, hMe, hNe, hUe, hDe]
 rw [eR] at onf
 have mtf := Mt.up (n := nf) (Mt.set (r' := Au (Au (Au (Au r (Az (m.layers.getD i default).q (Ah x (m.layers.getD i default).gain1))) (Az (m.layers.getD i default).o A)) (Az (m.layers.getD i default).up N2)) (Az (m.layers.getD i default).down (U.map C6))) (s' := Ge m q ks s m.heads.toNat) mt3') (by rw [Bj]; exact hnf)
 have owf := Own.on owu onf mt3' (fun c e => by have := hNp c e; omega)
 obtain ⟨fu2, hfu2⟩ := Al.lent owf
 repeat (first | rw [ko] | rw [kr] | simp -dsimp -implicitDefEqProofs only [go_sem, sQ1, row3, BZ p2])
 refine AD (PW.lend (.cons (EI (xs := BV (fun j => under (under (F 5) i) (j + 27)) (m.layers.getD i default).down) rfl) (.cons hfu2 .nil)) (TI.pw (Ef (F := fun j => under (under (F 5) i) (j + 27)) hdm.1 (by omega) (Lx hua))) (fun y hy => hy.2)) ?_
 rintro y ng hng ⟨⟨fg, hy⟩, _⟩
 obtain rfl : y = .tp [.sl fg 1 (ints D), .raw (.bool true)] := by rw [← hDe]; exact hy
 simp only [AF] at hng
 refine zr ?_
 refine AA (TS (x := M) (y := D) (Bz hmid.2 (by omega)) (Bz hdI.2 (by omega)) (by omega) (by omega)) ?_
 rintro _ g7 ⟨l7, v7, rfl, ow7⟩
 have c7 := AT ow7
 have nn3 := on3'.1
 simp only [AF] at ow7
 refine A1 c7 ?_
 rw [eR, eS, eI]
 exact ⟨AV.le (AV.up (AV.trans on3' onf) (by simp only [AF]; omega)) l7, Mt.le (Mt.up mtf (by simp only [AF]; omega)) l7, v7, rfl, ow7.wide (by omega)⟩
end Go.Bi
end
