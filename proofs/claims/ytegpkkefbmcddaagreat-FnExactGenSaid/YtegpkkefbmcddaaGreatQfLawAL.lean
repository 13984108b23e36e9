/- Own lemmas that the theorem of this claim needs: the abstract machine and walks of functions. -/
import Derived.Test.YtegpkkefbmcddaaGreatQfLawAK
set_option linter.unusedSimpArgs false
set_option linter.unusedVariables false
open Nat renaming reduceBEq → sQ1, reduceAdd → sQ2, reduceLeDiff → sQ3, reduceMul → sQ4
open Int renaming reduceLE → sQ5, reduceLT → sQ6, reduceBEq → sQ7
section
set_option maxRecDepth 20000
namespace Go.Bi
open Go.Proofs
open Go.Ai (wrap_i64 wrap_u64 wrap_u8 Heap)
variable {W0 : World} {P : Program} {α : Type}
set_option maxHeartbeats 4000000
structure Sx (e : α → List T) (z : Nat) : Prop where
 len : ∀ a, (e a).length = z
 cell : ∀ a, ∀ t ∈ e a, (∃ n, t = .v (.int .i64 n)) ∨ ∃ k es, t = .l k es
def C9 (e : α → List T) (z : Nat) (cs : List X) (l : List α) : Prop := CR cs = some (l.flatMap e) ∧ (∀ x ∈ cs, (∃ n, x = .raw (.int .i64 n)) ∨ ∃ f k es, x = .sl f k es) ∧ cs.length = l.length * z
theorem C9.nil {e : α → List T} {z : Nat} : C9 e z [] [] := ⟨rfl, by simp, by simp⟩
theorem C9.app {e : α → List T} {z : Nat} {a b : List X} {l l' : List α} (h : C9 e z a l) (h' : C9 e z b l') : C9 e z (a ++ b) (l ++ l') :=
 ⟨by rw [List.flatMap_append]; exact Lq h.1 h'.1, fun x hx => (List.mem_append.1 hx).elim (h.2.1 x) (h'.2.1 x), by rw [List.length_append, h.2.2, h'.2.2, List.length_append, Nat.add_mul]⟩
theorem C9.ok {e : α → List T} {z : Nat} {cs : List X} {l : List α} (h : C9 e z cs l) : cs.all FC = true := by
 rw [List.all_eq_true]
 intro x hx
 rcases h.2.1 x hx with ⟨n, rfl⟩ | ⟨f, k, es, rfl⟩ <;> rfl
theorem bX {f : AQ} : ∀ {ts : List T} {j : Nat}, (∀ t ∈ ts, (∃ n, t = .v (.int .i64 n)) ∨ ∃ k es, t = .l k es) → CR (Gv f j ts) = some ts ∧ (∀ x ∈ Gv f j ts, (∃ n, x = .raw (.int .i64 n)) ∨ ∃ f k es, x = .sl f k es) ∧ (Gv f j ts).length = ts.length
 | [], _, _ => ⟨rfl, by simp [Gv], rfl⟩
 | t :: ts, j, h => by
  obtain ⟨h1, h2, h3⟩ := bX (f := f) (ts := ts) (j := j + 1) fun t ht => h t (List.mem_cons_of_mem _ ht)
  rcases h t List.mem_cons_self with ⟨n, rfl⟩ | ⟨k, es, rfl⟩
  ·refine ⟨?_, ?_, by simp [Gv, h3]⟩
   ·simp only [Gv, Qz, Hm, PU, h1, Hd]
   ·intro x hx
    simp only [Gv, Qz, List.mem_cons] at hx
    rcases hx with rfl | hx
    ·exact .inl ⟨_, rfl⟩
    ·exact h2 x hx
  ·refine ⟨?_, ?_, by simp [Gv, h3]⟩
   ·simp only [Gv, Qz, Hm, Xa, h1, Hd]
   ·intro x hx
    simp only [Gv, Qz, List.mem_cons] at hx
    rcases hx with rfl | hx
    ·exact .inr ⟨_, _, _, rfl⟩
    ·exact h2 x hx
theorem Oy {e : α → List T} {z : Nat} (he : Sx e z) {f : AQ} : ∀ {l : List α} {i : Nat}, C9 e z (CC f i (l.map e)) l
 | [], _ => .nil
 | a :: l, i => by
  have h := Oy he (f := f) (l := l) (i := i + 1)
  obtain ⟨h1, h2, h3⟩ := bX (f := under f i) (j := 0) (he.cell a)
  have h4 : C9 e z (Gv (under f i) 0 (e a)) [a] := ⟨by rw [h1]; simp, h2, by rw [h3, he.len]; simp⟩
  exact h4.app h
theorem Hu {e : α → List T} {z : Nat} (he : Sx e z) : ∀ {l : List α}, chunk z l.length (l.flatMap e) = l.map e
 | [] => rfl
 | a :: l => by
  have := Hu he (l := l)
  show chunk z (l.length + 1) (e a ++ l.flatMap e) = e a :: l.map e
  simp only [chunk]
  rw [← he.len a, List.take_left', List.drop_left']
  ·rw [he.len a, this]
  ·rfl
  ·rfl
theorem Gf {e : α → List T} {z : Nat} (he : Sx e z) {p : Nat → Prop} {N : Nat} {g : H2} {x : X} {cs : List X} {l : List α} (o : Own N g x z l.length cs) (hc : C9 e z cs l) (hp : ∀ b, N ≤ b → p b) : ∃ f, Fz p (fun _ => True) g x (.sl f z (l.map e)) := by
 have := Own.fz (p := p) (q := fun _ => True) o hp (fun c hx => by
  rcases hc.2.1 c hx with ⟨n, rfl⟩ | ⟨f, k, es, rfl⟩
  ·exact .raw
  ·exact .sl (.sl (Ee _ _))) hc.1
 rwa [Hu he] at this
theorem YF {e : α → List T} {z : Nat} (hE : Sx e (z + 1)) {g : H2} {K : KT} {t u U y N : Nat} {zs : List Value} {l l' : List α} {cs : List X} {x : X} {f : AQ} (he : Go.Ai.elt? P t = some (U, z + 1, y)) (hz : Go.Ai.zr? P U = some zs) (hl : zs.length = z + 1) (hu : Go.Ai.cls? P u = some .sl)
  (hx : Own N g x (z + 1) l.length cs) (hc : C9 e (z + 1) cs l) (hN0 : N ≤ hn g .mk) (hn0 : (l.length + l'.length) * (y + 1) ≤ Go.Ai.most)
  (hk : ∀ v' g' cs', Own N g' v' (z + 1) (l ++ l').length cs' → C9 e (z + 1) cs' (l ++ l') → N ≤ hn g' .mk → (∀ g0 : H2, hn g0 .mk ≤ N → g0.le g → g0.le g') → (∀ b, b < N → hg g' b .mk = hg g b .mk) → kz K v' g' .mk) :
  az (EN P g .append [t, u] [x, .sl f (z + 1) (l'.map e)] .mk) K .mk := by
 have h2 : C9 e (z + 1) (CC f 0 (l'.map e)) l' := Oy hE
 refine DO (z := z) (N := N) (m := l'.length) (news := CC f 0 (l'.map e)) he hz hl hu hx hN0 ?_ h2.2.2 h2.ok hn0 ?_
 ·simp only [E0, if_true, List.length_map]
 intro v' g' o nn le on
 refine hk v' g' (cs ++ CC f 0 (l'.map e)) ?_ (hc.app h2) (by omega) le fun b hb => on b (by omega) fun e => ?_
 ·rw [List.length_append]
  exact o
 ·obtain ⟨_, h⟩ := hx
  rcases h with ⟨rfl, _⟩ | ⟨q, rfl, a1, _⟩
  ·cases e
  ·simp only [AP, Option.some.injEq] at e; omega
theorem fH : Sx (fun n : Int => [T.v (.int .i64 n)]) 1 := ⟨fun _ => rfl, fun a t ht => by simp only [List.mem_singleton] at ht; exact .inl ⟨_, ht⟩⟩
theorem VX : Sx Di 1 := ⟨fun _ => rfl, fun a t ht => by simp only [Di, List.mem_singleton] at ht; exact .inr ⟨_, _, ht⟩⟩
theorem aw : Sx Ev 2 := ⟨fun _ => rfl, fun a t ht => by
 simp only [Ev, List.mem_cons, List.not_mem_nil, or_false] at ht
 rcases ht with rfl | rfl
 ·exact .inl ⟨_, rfl⟩
 ·exact .inr ⟨_, _, rfl⟩⟩
theorem Fy : Sx CL 1 := ⟨fun _ => rfl, fun a t ht => by simp only [CL, List.mem_singleton] at ht; exact .inr ⟨_, _, ht⟩⟩
theorem M9 : Sx De 2 := ⟨fun _ => rfl, fun a t ht => by
 simp only [De, List.mem_cons, List.not_mem_nil, or_false] at ht
 rcases ht with rfl | rfl <;> exact .inr ⟨_, _, rfl⟩⟩
end Go.Bi
end
section
set_option maxRecDepth 20000
namespace Go.Bi
open Go.Proofs
open Go.Ai (wrap_i64 wrap_u64 wrap_u8 Heap)
variable {W0 : World} {P : Program}
set_option maxHeartbeats 4000000
abbrev TI (P : Program) (W0 : World) (f : FuncId) (xs : List X) (g : H2) (zs : List Int) : Prop := A7 P W0 f xs g fun y g' => g.le g' ∧ ∃ v, y = .tp [v, .raw (.bool true)] ∧ Al (hn g .mk) g' v zs
theorem Z4 {p q : Nat → Prop} {g : H2} {x y x2 y2 : X} (h : Fz p q g x y) (h2 : Fz p q g x2 y2) : Fz p q g (.tp [x, x2]) (.tp [y, y2]) := .tp rfl fun i hi hi' => by
 rcases i with _ | _ | i
 ·exact h
 ·exact h2
 ·simp at hi; omega
theorem TI.pw {f : FuncId} {xs : List X} {g : H2} {zs : List Int} (c : TI P W0 f xs g zs) : PW P W0 f xs g fun y => (∃ f, y = .tp [.sl f 1 (ints zs), .raw (.bool true)]) ∧ Bu (fun b => hn g .mk ≤ b) y := by
 refine (PW.of (q := fun b => hn g .mk ≤ b) (Q := fun y => ∃ f, y = .tp [.sl f 1 (ints zs), .raw (.bool true)]) (c.mono ?_)).mono fun y ⟨h1, h2⟩ => ⟨h1, h2.imp fun b hb => hb.elim id id⟩
 rintro x g' ⟨le, v, rfl, ow⟩
 obtain ⟨f, hf⟩ := ow.fz (p := fun b => hn g .mk ≤ b) (q := fun b => hn g .mk ≤ b) fun _ h => h
 exact ⟨le, _, Z4 hf .raw, f, rfl⟩
theorem PW.two {f : FuncId} {xs : List X} {g : H2} {Q : X → Prop} (c : A7 P W0 f xs g fun x g' => g.le g' ∧ (∃ a b, x = .tp [.raw a, .raw b]) ∧ Q x) : PW P W0 f xs g Q :=
 (PW.of (q := fun _ => True) (Q := Q) (c.mono fun x g' ⟨h1, ⟨a, b, h2⟩, h3⟩ => ⟨h1, x, by subst h2; exact Z4 .raw .raw, h3⟩)).mono fun y h => h.1
theorem eC {l : List Int} {i : Nat} (h : i < l.length) : (l.map cI)[i]? = some (.raw (.int .i64 (l.getD i default))) := by
 rw [List.getElem?_map, List.getElem?_eq_getElem h, List.getD_eq_getElem?_getD, List.getElem?_eq_getElem h]; rfl
theorem eH {l : List Int} {i : Nat} {v : Int} (h : i < l.length) : Cv (l.map cI) i [.raw (.int .i64 v)] = some ((l.set i v).map cI) := by
 rw [H0 (by simpa using h), List.map_set]; rfl
def IV (f : Int → Int) (l : List Int) (i : Nat) : List Int := (l.map f).take i ++ l.drop i
theorem O2 {f : Int → Int} {l : List Int} {i : Nat} (h : i ≤ l.length) : (IV f l i).length = l.length := by simp [IV]; omega
theorem RH {f : Int → Int} {l : List Int} {i : Nat} (h : i < l.length) : (IV f l i).getD i default = l.getD i default := by
 unfold IV
 rw [List.getD_eq_getElem?_getD, List.getElem?_append_right (by simp; omega), List.getD_eq_getElem?_getD]
 simp [Nat.min_eq_left (Nat.le_of_lt h)]
theorem OP {f : Int → Int} {l : List Int} {i : Nat} (h : i < l.length) : (IV f l i).set i (f (l.getD i default)) = IV f l (i + 1) := by
 unfold IV
 rw [BL h, List.set_append_right _ _ (by simp; omega)]
 have : i - ((l.map f).take i).length = 0 := by simp; omega
 rw [this, List.drop_eq_getElem_cons h, List.set_cons_zero, List.append_assoc]
 rfl
theorem N1 {f : Int → Int} {l : List Int} : IV f l l.length = l.map f := by
 unfold IV
 rw [List.drop_length, List.append_nil, List.take_of_length_le (by simp)]
theorem I3 {N : Nat} {g : H2} {v : X} {zs : List Int} (o : Al N g v zs) (h : 0 < zs.length) : ∃ b, v = .raw (.slice (some ⟨b, 0, none⟩) zs.length zs.length) ∧ N ≤ b ∧ b < hn g .mk ∧ hg g b .mk = some ⟨1, zs.map cI⟩ := by
 obtain ⟨_, ⟨_, h0⟩ | h2⟩ := o
 ·omega
 ·exact h2
theorem JJ {N b : Nat} {g : H2} {zs : List Int} {n : Nat} (hn1 : n = zs.length) (h1 : N ≤ b) (h2 : b < hn g .mk) (h3 : hg g b .mk = some ⟨1, zs.map cI⟩) : Al N g (.raw (.slice (some ⟨b, 0, none⟩) n n)) zs := by
 subst hn1
 exact ⟨by simp, .inr ⟨b, rfl, h1, h2, h3⟩⟩
theorem Lw {l : List Int} {i : Nat} {a : Int} (h : i < l.length) : (l.take (i + 1)).foldl max a = max ((l.take i).foldl max a) (l.getD i default) := by
 rw [List.take_succ_eq_append_getElem h, List.foldl_append, List.getD_eq_getElem?_getD, List.getElem?_eq_getElem h]
 rfl
theorem ZF {f : AQ} {l : List Int} {g : H2} (h0 : 0 < l.length) (hl : l.length ≤ 1048576) : A7 Tryz.prog W0 85 [.sl f 1 (ints l)] g (fun v g' => v = .raw (.int .i64 (HB l)) ∧ g' = g) := by
 refine AH [[0], [0], [0], [0], [0, 3], [0, 3, 4], [0, 3, 4], [0, 3, 4], [3]] Tryz.func85 rfl (rs := [.tmp 2]) rfl rfl ?_
 intro wf
 have e0 : ¬ (l.length : Int) < 1 := by omega
 have i0 : (0 : Int) ≤ 0 := by omega
 repeat (first | rw [ko] | rw [kr] | simp -dsimp -implicitDefEqProofs only [go_sem, sQ1, e0, h0, i0, Int.toNat_zero])
 refine AJ [0] (fun m e h' => ∃ (i : Nat), h' = g ∧ look e 4 .mk = .raw (.int .i64 (i : Nat)) ∧ look e 3 .mk = .raw (.int .i64 ((l.take i).foldl max (l.getD 0 default))) ∧ m + i = l.length + 1 ∧ i ≤ l.length) l.length ?_ ?_
 ·refine ⟨1, rfl, by simp -dsimp -implicitDefEqProofs only [go_sem] <;> rfl, ?_, by omega, by omega⟩
  have e1 : (l.take 1).foldl max (l.getD 0 default) = l.getD 0 default := by rw [Lw h0]; simp
  rw [e1]
  simp -dsimp -implicitDefEqProofs only [go_sem]
 rintro m e h' hks ⟨i, rfl, ei, es, hm, hi1⟩
 simp -dsimp -implicitDefEqProofs only [go_sem] at hks
 by_cases q1 : (i : Int) < (l.length : Int)
 ·have q2 : i < l.length := by omega
  have w1 := BE i (by omega)
  refine PY hks ei es q1 q2 w1 ?_
  exact AI (m - 1) (by omega) AL ⟨i + 1, rfl, AL, by rw [Lw q2]; simp -dsimp -implicitDefEqProofs only [go_sem, sQ1, Rf], by omega, by omega⟩
 ·refine Cu hks ei es q1 ?_
  have : i = l.length := by omega
  subst this
  exact ⟨by unfold HB; rw [List.take_length], rfl⟩
theorem V9 {f f' : AQ} {q k : List Int} {g : H2} (hq : Ay 127 q) (hk : Ay 127 k) (h1 : 1 ≤ q.length) (h8 : q.length ≤ 8) (hl : k.length = q.length) : PW Tryz.prog W0 241 [.sl f 1 (ints q), .sl f' 1 (ints k)] g (fun y => y = .tp [.raw (.int .i64 (BI q k)), .raw (.bool true)]) := by
 refine PW.two ?_
 refine AH [[0, 1], [0, 1], [], [0, 1], [0, 1, 6], [1, 6, 30, 31, 32], [1, 6, 30, 31, 32], [1, 6, 7, 8, 30, 31, 32], [1, 6, 30, 31, 32], [6]] Tryz.func241 rfl (rs := [.tmp 4, .tmp 5]) rfl rfl ?_
 intro wf
 have hle : (q.length : Int) = (k.length : Int) := by omega
 have e1 : decide (¬ (q.length : Int) = (k.length : Int)) = false := decide_eq_false (fun h => h hle)
 refine A1 e1 ?_
 refine AA BQ ?_
 rintro _ g ⟨rfl, rfl⟩
 rw [A8 (by omega) (by omega)]
 refine zr ?_
 refine AD (BN (by omega)) ?_
 rintro _ n1 hn1 rfl
 rw [BM hq (by omega)]
 refine zr ?_
 refine AD (BN (by omega)) ?_
 rintro _ n2 hn2 rfl
 rw [BM hk (by omega)]
 refine zr ?_
 refine AJ [1, 30, 31] (fun m e h' => ∃ (i : Nat), g.le h' ∧ look e 32 .mk = .raw (.int .i64 (i : Nat)) ∧ look e 6 .mk = .raw (.int .i64 (Aq (fun i => q.getD i default * k.getD i default) i)) ∧ m + i = q.length) q.length ?_ ?_
 ·exact ⟨0, by first | exact AK (AK (H2.le.refl _) hn1) hn2 | exact AK (H2.le.refl _) (Nat.le_trans hn1 hn2), AL, by simp -dsimp -implicitDefEqProofs only [go_sem, sQ1] <;> rfl, by omega⟩
 rintro m e h' hks ⟨i, hle1, ei, es, hm⟩
 simp -dsimp -implicitDefEqProofs only [go_sem, sQ1] at hks
 by_cases q1 : (i : Int) < (q.length : Int)
 ·have q2 : i < q.length := by omega
  have q3 : i < k.length := by omega
  have w1 := BE i (by omega)
  have a := SF hq hk i
  have b := MS hq hk (n := i + 1) (by omega)
  have w3 := AX (x := q.getD i default * k.getD i default) (by omega)
  have w2 : IntKind.i64.wrap (Aq (fun i => q.getD i default * k.getD i default) i + q.getD i default * k.getD i default) = Aq (fun i => q.getD i default * k.getD i default) (i + 1) := AX (x := Aq (fun i => q.getD i default * k.getD i default) (i + 1)) (by omega)
  refine fR hks ei es q1 q2 q3 w1 w3 w2 ?_
  exact AI (m - 1) (by omega) AL ⟨i + 1, hle1, AL, AL, by omega⟩
 refine Cu hks ei es q1 ?_
 obtain rfl : i = q.length := by omega
 refine AA (Cs (by omega) (by have := MS hq hk h8; omega)) ?_
 rintro y _ ⟨hy, rfl⟩
 obtain rfl : y = .raw (.int .i64 (BI q k)) := hy
 refine zr ?_
 exact ⟨hle1, ⟨_, _, rfl⟩, rfl⟩
theorem LA {f f' : AQ} {q : List Int} {ks : List (List Int)} {g : H2} (hq : Ay 127 q) (h1 : 1 ≤ q.length) (h8 : q.length ≤ 8) (hk : ∀ k ∈ ks, k.length = q.length ∧ Ay 127 k) (hn0 : ks.length ≤ 1000) : TI Tryz.prog W0 227 [.sl f 1 (ints q), .sl f' 1 (AE ks)] g (ks.map (BI q)) := by
 refine AH [[0, 1], [0, 1], [0, 1, 6], [0, 6, 12, 13, 14], [0, 6, 12, 13, 14], [0, 6, 8, 12, 13, 14], [0, 6, 9, 10, 12, 13, 14], [], [0, 6, 9, 12, 13, 14], [0, 6, 12, 13, 14], [6]] Tryz.func227 rfl (rs := [.tmp 4, .tmp 5]) rfl rfl ?_
 intro wf
 refine zr ?_
 refine AJ [0, 12, 13] (fun m e h' => ∃ (i : Nat) (v : X), g.le h' ∧ hn g .mk ≤ hn h' .mk ∧ look e 14 .mk = .raw (.int .i64 (i : Nat)) ∧ look e 6 .mk = v ∧ m + i = ks.length ∧ Al (hn g .mk) h' v ((ks.map (BI q)).take i)) ks.length ?_ ?_
 ·exact ⟨0, _, le_push (H2.le.refl _), by simp only [AB]; omega, AL, by simp -dsimp -implicitDefEqProofs only [go_sem, sQ1] <;> rfl, by omega, Own.new (Nat.le_refl _) rfl⟩
 rintro m e h' hks ⟨i, v, hle, nn, ei, ev, hm, ow⟩
 simp -dsimp -implicitDefEqProofs only [go_sem, sQ1] at hks
 have c0 := AT ow
 by_cases q1 : (i : Int) < (ks.length : Int)
 ·have q2 : i < ks.length := by omega
  have w1 := BE i (by omega)
  have hki := hk _ (BG q2)
  have hl2 : ((ks.map (BI q)).take i).length ≤ 1048576 := by rw [List.length_take, List.length_map]; omega
  refine FD hks ei ev q1 q2 ?_
  refine AD (V9 hq hki.2 h1 h8 hki.1) ?_
  rintro _ n1 hn1 rfl
  refine zr ?_
  refine GS (P := Tryz.prog) (D := fun _ => none) Go.Ai.ty_el25 Go.Ai.ty_zr3 Go.Ai.ty_cl25 (by omega) (Own.keep ow (AK (H2.le.refl _) hn1)) (AK hle hn1) (by omega) (by rw [AF]; omega) hl2 ?_
  intro v4 g4 ow4 le4 nn4 on4
  refine A1 w1 ?_
  exact AI (m - 1) (by omega) AL ⟨i + 1, v4, le4, nn4, AL, AL, by omega, (BL q2).symm ▸ ow4⟩
 ·refine FD hks ei ev q1 c0 ?_
  have hi : i = (ks.map (BI q)).length := by rw [List.length_map]; omega
  rw [hi, List.take_length] at ow
  exact ⟨hle, v, rfl, ow⟩
theorem Rz {f : AQ} {l : List Int} {g : H2} (h1 : 1 ≤ l.length) (h32 : l.length ≤ 32) (hl : Ay 100000 l) : TI Tryz.prog W0 242 [.sl f 1 (ints l)] g (Bp l) := by
 refine AH [[0], [0], [], [0], [0, 4], [0, 4, 5], [0, 4, 5, 6], [4, 5, 6, 24, 25, 26], [4, 5, 6, 24, 25, 26], [4, 5, 6, 8, 24, 25, 26], [4, 5, 6, 9, 24, 25, 26], [4, 5, 6, 9, 24, 25, 26], [4, 5, 6, 24, 25, 26], [5, 6], [5, 6, 42, 43, 44], [5, 6, 42, 43, 44], [5, 6, 10, 11, 42, 43, 44], [5, 6, 42, 43, 44], [6]] Tryz.func242 rfl (rs := [.tmp 2, .tmp 3]) rfl rfl ?_
 intro wf
 refine zr ?_
 refine AA BQ ?_
 rintro _ g ⟨rfl, rfl⟩
 rw [A8 (by omega) (by omega)]
 refine zr ?_
 refine AD (BN (by omega)) ?_
 rintro _ n1 hn1 rfl
 rw [BM hl (by omega)]
 refine zr ?_
 refine AA (ZF (by omega) (by omega)) ?_
 rintro _ _ ⟨rfl, rfl⟩
 have hmx := P1 hl (by omega)
 refine zr ?_
 refine AJ [4, 24, 25] (fun m e h' => ∃ (i : Nat) (v : X), g.le h' ∧ hn g .mk ≤ hn h' .mk ∧ look e 26 .mk = .raw (.int .i64 (i : Nat)) ∧ look e 6 .mk = v ∧ look e 5 .mk = .raw (.int .i64 (Aq (fun i => (A6 l).getD i default) i)) ∧ m + i = l.length ∧ Al (hn g .mk) h' v ((A6 l).take i)) l.length ?_ ?_
 ·exact ⟨0, _, le_push (AK (H2.le.refl _) hn1), by simp only [AB, AF]; omega, AL, by simp -dsimp -implicitDefEqProofs only [go_sem, sQ1] <;> rfl, by simp -dsimp -implicitDefEqProofs only [go_sem, sQ1] <;> rfl, by omega, Own.new (by simp only [AF]; omega) rfl⟩
 rintro m e h' hks ⟨i, v, hle, nn, ei, ev, es, hm, ow⟩
 simp -dsimp -implicitDefEqProofs only [go_sem, sQ1] at hks
 have c0 := AT ow
 by_cases q1 : (i : Int) < (l.length : Int)
 ·have q2 : i < l.length := by omega
  have w1 := BE i (by omega)
  have hxi := Ag (by omega) hl i
  have w3 := AX (x := l.getD i default - HB l) (by omega)
  have b := Nt (l := l) (n := i + 1) (by omega)
  have w2 : IntKind.i64.wrap (Aq (fun i => (A6 l).getD i default) i + Gk (l.getD i default - HB l)) = Aq (fun i => (A6 l).getD i default) (i + 1) := by
   rw [← Hg q2]
   exact AX (x := Aq (fun i => (A6 l).getD i default) (i + 1)) (by omega)
  have hl2 : ((A6 l).take i).length ≤ 1048576 := by rw [List.length_take, EC]; omega
  refine Tk hks ei ev es q1 q2 w3 ?_
  refine AA aZ ?_
  rintro _ _ ⟨rfl, rfl⟩
  refine zr ?_
  refine GS (P := Tryz.prog) (D := fun _ => none) Go.Ai.ty_el25 Go.Ai.ty_zr3 Go.Ai.ty_cl25 (by omega) ow hle (by omega) nn hl2 ?_
  intro v4 g4 ow4 le4 nn4 on4
  have c4 := AT ow4
  refine C5 w1 w2 ?_
  exact AI (m - 1) (by omega) AL ⟨i + 1, v4, le4, nn4, AL, AL, AL, by omega, (BL (f := fun n => Gk (n - HB l)) q2).symm ▸ ow4⟩
 have hi : i = (A6 l).length := by rw [EC]; omega
 rw [hi, List.take_length] at ow
 have hi2 : i = l.length := by omega
 rw [hi2] at es
 obtain ⟨b, rfl, hb1, hb2, hb3⟩ := I3 ow (by rw [EC]; omega)
 rw [EC] at ev
 refine FD hks ei ev es q1 ?_
 have sp := Ib (l := l) (by omega)
 refine AJ [5, 6, 42, 43] (fun m e h2 => ∃ (i : Nat), g.le h2 ∧ b < hn h2 .mk ∧ look e 44 .mk = .raw (.int .i64 (i : Nat)) ∧ m + i = l.length ∧ hg h2 b .mk = some ⟨1, (IV (fun e => e * 256 / Aq (fun i => (A6 l).getD i default) l.length) (A6 l) i).map cI⟩) l.length ?_ ?_
 ·exact ⟨0, hle, hb2, AL, by omega, hb3⟩
 rintro m2 e2 h2 hks2 ⟨i2, hle2, hbn, ei2, hm2, row⟩
 simp -dsimp -implicitDefEqProofs only [go_sem, sQ1] at hks2
 by_cases q1 : (i2 : Int) < (l.length : Int)
 ·have q2 : i2 < l.length := by omega
  have q3 : i2 < (A6 l).length := by rw [EC]; exact q2
  have q4 : i2 < (IV (fun e => e * 256 / Aq (fun i => (A6 l).getD i default) l.length) (A6 l) i2).length := by rw [O2 (by omega)]; exact q3
  have w1 := BE i2 (by omega)
  have hgt := eC q4
  rw [RH q3] at hgt
  have ein := FJ q2
  have w3 := AX (x := (A6 l).getD i2 default * 256) (by omega)
  have ed : Int.tdiv ((A6 l).getD i2 default * 256) (Aq (fun i => (A6 l).getD i default) l.length) = (A6 l).getD i2 default * 256 / Aq (fun i => (A6 l).getD i default) l.length := Int.tdiv_eq_ediv_of_nonneg (by omega)
  have sh := Jf ((A6 l).getD i2 default * 256 / Aq (fun i => (A6 l).getD i default) l.length) (by rw [← J9 q2]; exact BG (by rw [BP]; exact q2))
  have w4 := AX (x := (A6 l).getD i2 default * 256 / Aq (fun i => (A6 l).getD i default) l.length) (by omega)
  have hz : (Aq (fun i => (A6 l).getD i default) l.length == 0) = false := by rw [beq_eq_false_iff_ne]; omega
  have hwr := eH (v := (A6 l).getD i2 default * 256 / Aq (fun i => (A6 l).getD i default) l.length) q4
  rw [OP (f := fun e => e * 256 / Aq (fun i => (A6 l).getD i default) l.length) q3] at hwr
  have hi3 : (0 : Int) ≤ (i2 : Int) ∧ (i2 : Int) < (l.length : Int) := by omega
  repeat (first | rw [ko] | rw [kr] | simp -dsimp -implicitDefEqProofs only [go_sem, sQ1, hks2, ei2, q1, row, hgt, w1, w3, ed, w4, hz, hwr, hi3, Int.toNat_natCast])
  exact AI (m2 - 1) (by omega) AL ⟨i2 + 1, CF hle2 hb1, hbn, AL, by omega, by simp -dsimp -implicitDefEqProofs only [go_sem, Av]⟩
 ·refine DH hks2 ei2 q1 ?_
  have hi3 : i2 = (A6 l).length := by rw [EC]; omega
  rw [hi3, N1] at row
  exact ⟨hle2, _, rfl, JJ (by rw [BP]) hb1 hbn row⟩
def KN (n : Nat) (vs : List (List Int)) : Prop := ∀ v ∈ vs, v.length = n ∧ Ay 127 v
theorem ZS {f : AQ} {r : List Int} {b n : Nat} {h : H2} (hb : hg h b .mk = some ⟨1, [.raw (.int .i64 (n : Nat))]⟩) (hl : r.length ≤ 1048576) : PW Tryz.prog W0 246 [.sl f 1 (ints r), .raw (.pointer (some ⟨b, 0, none⟩))] h (fun y => y = .raw (.bool (!(decide ((r.length : Int) = (n : Nat)) && allI r (-127) 127)))) := by
 refine PW.scalar ?_
 refine AH [[0, 1], [0, 1]] Tryz.func246 rfl (rs := [.tmp 3]) rfl rfl ?_
 intro wf
 by_cases h1 : (r.length : Int) = (n : Nat)
 ·have d1 : decide ((r.length : Int) = (n : Nat)) = true := decide_eq_true h1
  have e1 : decide (¬ (r.length : Int) = (n : Nat)) = false := decide_eq_false (fun h => h h1)
  refine C5 hb e1 ?_
  refine AD (BN (by omega)) ?_
  rintro _ n1 hn1 rfl
  refine zr ?_
  exact ⟨AK (H2.le.refl _) hn1, ⟨_, rfl⟩, by rw [d1]; rfl⟩
 ·have d1 : decide ((r.length : Int) = (n : Nat)) = false := decide_eq_false h1
  have e1 : decide (¬ (r.length : Int) = (n : Nat)) = true := decide_eq_true h1
  refine C5 hb e1 ?_
  exact ⟨H2.le.refl _, ⟨_, rfl⟩, by rw [d1]; rfl⟩
theorem Du {n : Nat} {vs : List (List Int)} (h : KN n vs) (i : Nat) (hi : i < vs.length) : (vs.getD i default).length = n ∧ Ay 127 (vs.getD i default) := h _ (BG hi)
theorem Zl {f f' : AQ} {sh : List Int} {vs : List (List Int)} {n : Nat} {g : H2} (hl : vs.length = sh.length) (h1 : 1 ≤ sh.length) (h32 : sh.length ≤ 32) (hs : allI sh 0 256 = true) (hn1 : 1 ≤ n) (hn8 : n ≤ 8) (hv : KN n vs) : TI Tryz.prog W0 243 [.sl f 1 (ints sh), .sl f' 1 (AE vs)] g (Mj sh vs n) := by
 refine AH [[0, 1], [0, 1], [], [0, 1], [0, 1, 6], [], [0, 1, 6], [0, 1, 6, 7], [0, 1, 7, 41, 42], [0, 1, 7, 41, 42], [0, 1, 7, 8, 41, 42], [0, 1, 7, 8, 9, 41, 42], [0, 1, 7, 8, 9, 41, 42, 45, 46, 47], [0, 1, 7, 8, 9, 41, 42, 45, 46, 47], [0, 1, 7, 8, 9, 10, 11, 41, 42, 45, 46, 47], [0, 1, 7, 8, 9, 41, 42, 45, 46, 47], [0, 1, 7, 9, 41, 42], [0, 1, 7, 41, 42], [7]] Tryz.func243 rfl (rs := [.tmp 4, .tmp 5]) rfl rfl ?_
 intro wf
 have hsa := B3 hs (n := 256) (by omega) (by omega)
 have hle : (sh.length : Int) = (vs.length : Int) := by omega
 have e1 : decide (¬ (sh.length : Int) = (vs.length : Int)) = false := decide_eq_false (fun h => h hle)
 have v0 := Du hv 0 (by omega)
 have q0 : 0 < vs.length := by omega
 have i0 : (0 : Int) ≤ 0 := by omega
 refine A1 e1 ?_
 refine AA BQ ?_
 rintro _ g ⟨rfl, rfl⟩
 rw [A8 (by omega) (by omega)]
 refine zr ?_
 refine AD (BN (by omega)) ?_
 rintro _ n1 hn1 rfl
 rw [hs]
 repeat (first | rw [ko] | rw [kr] | simp -dsimp -implicitDefEqProofs only [go_sem, sQ1, q0, i0, Int.toNat_zero, v0.1, Av])
 refine AA BQ ?_
 rintro _ _ ⟨rfl, rfl⟩
 rw [A8 (by omega) (by omega)]
 refine zh ?_
 refine AD (GN (p := fun r => !(decide ((r.length : Int) = (n : Nat)) && allI r (-127) 127)) (by omega) fun i hi f2 h2 le2 => ZS ((le2.2 n1 (by simp only [AB, AG, AF]; omega)).trans (by simp -dsimp -implicitDefEqProofs only [go_sem, Av])) (by have := Du hv i hi; omega)) ?_
 rintro _ n2 hn2 rfl
 have hany : (vs.any fun r => !(decide ((r.length : Int) = (n : Nat)) && allI r (-127) 127)) = false := by
  rw [List.any_eq_false]
  intro r hr
  have := hv r hr
  rw [decide_eq_true (by omega), BM this.2 (by omega)]
  simp
 rw [hany]
 simp only [AB, AG, AF] at hn2
 have hne : (n1 == n2) = false := Cw
 refine DC hne ?_
 refine AJ [0, 1, 41] (fun m e h' => ∃ (k : Nat) (v : X), g.le h' ∧ n2 ≤ hn h' .mk ∧ look e 42 .mk = .raw (.int .i64 (k : Nat)) ∧ look e 7 .mk = v ∧ m + k = n ∧ Al n2 h' v ((Mj sh vs n).take k)) n ?_ ?_
 ·exact ⟨0, _, le_push (AK (CF (le_push (AK (H2.le.refl _) hn1)) hn1) (by simp only [AB, AG, AF]; omega)), by simp only [AB, AF]; omega, AL, by simp -dsimp -implicitDefEqProofs only [go_sem, sQ1] <;> rfl, by omega, Own.new (by simp only [AF]; omega) rfl⟩
 rintro m e h' hks ⟨k, v, hle, nn, ek, ev, hm, ow⟩
 simp -dsimp -implicitDefEqProofs only [go_sem, sQ1] at hks
 have c0 := AT ow
 by_cases q1 : (k : Int) < (n : Int)
 rotate_left
 ·refine FD hks ek ev q1 c0 ?_
  have hi : k = (Mj sh vs n).length := by rw [HA]; omega
  rw [hi, List.take_length] at ow
  exact ⟨hle, v, rfl, ow.wide (by omega)⟩
 have q2 : k < n := by omega
 refine Cu hks ek ev q1 ?_
 refine AJ [0, 1, 7, 8, 41, 42, 45, 46] (fun m2 e2 h2 => ∃ (i : Nat), h2 = h' ∧ look e2 47 .mk = .raw (.int .i64 (i : Nat)) ∧ look e2 9 .mk = .raw (.int .i64 (Aq (fun i => sh.getD i default * (vs.getD i default).getD k default) i)) ∧ m2 + i = sh.length) sh.length ?_ ?_
 ·exact ⟨0, rfl, AL, by simp -dsimp -implicitDefEqProofs only [go_sem, sQ1] <;> rfl, by omega⟩
 rintro m2 e2 h2 hks2 ⟨i, rfl, ei, es, hm2⟩
 simp -dsimp -implicitDefEqProofs only [go_sem, sQ1] at hks2
 by_cases p1 : (i : Int) < (sh.length : Int)
 ·have p2 : i < sh.length := by omega
  have p3 : i < vs.length := by omega
  have vi := Du hv i p3
  have p4 : k < (vs.getD i default).length := by omega
  have w1 := BE i (by omega)
  have a := SZ hsa vi.2 i k
  have b := Oa hsa (fun v hv2 => (hv v hv2).2) k (i + 1)
  have w3 := AX (x := sh.getD i default * (vs.getD i default).getD k default) (by omega)
  have w2 : IntKind.i64.wrap (Aq (fun i => sh.getD i default * (vs.getD i default).getD k default) i + sh.getD i default * (vs.getD i default).getD k default) = Aq (fun i => sh.getD i default * (vs.getD i default).getD k default) (i + 1) := AX (x := Aq (fun i => sh.getD i default * (vs.getD i default).getD k default) (i + 1)) (by omega)
  repeat (first | rw [ko] | rw [kr] | simp -dsimp -implicitDefEqProofs only [go_sem, sQ1, hks2, ei, es, p1, p2, p3, p4, w1, w3, w2])
  exact AI (m2 - 1) (by omega) AL ⟨i + 1, rfl, AL, AL, by omega⟩
 refine Cu hks2 ei es p1 ?_
 obtain rfl : i = sh.length := by omega
 have w1 := BE k (by omega)
 have hl2 : ((Mj sh vs n).take k).length ≤ 1048576 := by rw [List.length_take, HA]; omega
 refine AA (Cs (by omega) (by have := Oa hsa (fun v hv2 => (hv v hv2).2) k sh.length; omega)) ?_
 rintro _ _ ⟨rfl, rfl⟩
 refine zr ?_
 refine AA (Ct (by omega) (by omega)) ?_
 rintro _ _ ⟨rfl, rfl⟩
 refine zr ?_
 refine GS (P := Tryz.prog) (D := fun _ => none) Go.Ai.ty_el25 Go.Ai.ty_zr3 Go.Ai.ty_cl25 (by omega) ow hle (by omega) nn hl2 ?_
 intro v4 g4 ow4 le4 nn4 on4
 refine A1 w1 ?_
 exact AI (m - 1) (by omega) AL ⟨k + 1, v4, le4, nn4, AL, AL, by omega, (B0 q2).symm ▸ ow4⟩
theorem Lc {f f2 f3 : AQ} {q : List Int} {ks vs : List (List Int)} {g : H2} (hq : Ay 127 q) (h1 : 1 ≤ q.length) (h8 : q.length ≤ 8) (hk : KN q.length ks) (hv : KN q.length vs) (hl : vs.length = ks.length) (hk1 : 1 ≤ ks.length) (hk32 : ks.length ≤ 32) : TI Tryz.prog W0 228 [.sl f 1 (ints q), .sl f2 1 (AE ks), .sl f3 1 (AE vs)] g (Hl q ks vs) := by
 refine AH [[0, 1, 2], [0, 1, 2], [2, 8, 9], [], [2, 8], [2, 9, 10], [], [2, 10]] Tryz.func228 rfl (rs := [.tmp 6, .tmp 7]) rfl rfl ?_
 intro wf
 have sl : (ks.map (BI q)).length = ks.length := List.length_map _
 have sa : Ay 100000 (ks.map (BI q)) := fun y hy => by
  obtain ⟨k, hk0, rfl⟩ := List.mem_map.1 hy
  have := Ht hq (hk k hk0).2 h8
  omega
 refine zr ?_
 refine AD (TI.pw (LA hq h1 h8 hk (by omega))) ?_
 rintro _ n1 hn1 ⟨⟨f4, rfl⟩, _⟩
 refine zr ?_
 refine AD (TI.pw (Rz (by omega) (by omega) sa)) ?_
 rintro _ n2 hn2 ⟨⟨f5, rfl⟩, _⟩
 refine zr ?_
 refine AA (Zl (n := q.length) (by rw [BP]; omega) (by rw [BP]; omega) (by rw [BP]; omega) Ln h1 h8 hv) ?_
 rintro _ g3 ⟨l3, v, rfl, ow⟩
 have c0 := AT ow
 have e : hn g .mk ≤ n2 := Nat.le_trans hn1 hn2
 refine A1 c0 ?_
 exact ⟨H2.le.trans (by first | exact AK (AK (H2.le.refl _) hn1) hn2 | exact AK (H2.le.refl _) e) l3, v, rfl, ow.wide e⟩
end Go.Bi
end
section
namespace Go.Bi
open Go.Ai (Ar Heap WC)
variable {P : Program} {W0 : World} {g : H2} {K : KT}
def fX (g g' : H2) (b : Nat) : Prop := hn g .mk ≤ hn g' .mk ∧ ∀ c, c < hn g .mk → c ≠ b → hg g' c .mk = hg g c .mk
def PB (P : Program) (W0 : World) (f : FuncId) (xs : List X) (g : H2) (b : Nat) (Q : OB → X → Prop) : Prop :=
 A7 P W0 f xs g fun y g' => ∃ k, g' = (g.set b k).up (hn g' .mk) ∧ hn g .mk ≤ hn g' .mk ∧ Q k y
theorem FQ {k : OB} {b c : Nat} : (g.set b k).get c = if c = b then some k else g.get c := rfl
theorem PB.of {q : Nat → Prop} {f : FuncId} {xs : List X} {b : Nat} {Q : OB → X → Prop} (hb : b < hn g .mk)
    (c : A7 P W0 f xs g fun x g' => fX g g' b ∧ ∃ y k, hg g' b .mk = some k ∧ (∀ x ∈ k.cs, ∃ v, x = .raw v) ∧ Fz (fun c => hn g .mk ≤ c) q g' x y ∧ Q k y) :
    PB P W0 f xs g b fun k y => Q k y ∧ Bu (fun c => hn g .mk ≤ c ∨ q c) y := by
  intro h s o
  refine (c h s o).mono ?_
  rintro v h' ⟨x, g', rfl, s', x', o', le, y, k, hk, hr, fz, hq⟩
  have hk : g'.get b = some k := hk
  have hx : Ext g h ((g.set b k).up (hn g' .mk)) h' := ⟨x'.n, x'.keep, fun c hc h0 => by
    show (g.set b k).get c = none
    rw [FQ]
    split
    · rename_i e; subst e; rw [x'.non _ hc h0] at hk; cases hk
    · exact h0⟩
  refine ⟨y, (g.set b k).up (hn g' .mk), fz.er.symm, ⟨s'.n, fun c k' hk' => ?_⟩, hx, ?_, k, rfl, le.1, hq, fz.all (fun _ h => .inl h) (fun _ h => .inr h)⟩
  · have hk' : (g.set b k).get c = some k' := hk'
    rw [FQ] at hk'
    by_cases e : c = b
    · rw [if_pos e] at hk'
      obtain rfl := Option.some.inj hk'
      obtain ⟨r1, r2, r3⟩ := s'.row _ _ hk
      exact ⟨by rw [e]; exact r1, by rw [e]; exact r2, fun x hx2 => by obtain ⟨v, rfl⟩ := hr x hx2; exact .raw⟩
    · rw [if_neg e] at hk'
      obtain ⟨r1, r2, r3⟩ := s.row c k' hk'
      have hc : c < hn g .mk := by unfold hn; rw [s.n]; exact r1
      have hk2 : g'.get c = some k' := (le.2 c hc e).trans hk'
      obtain ⟨q1, q2, q3⟩ := s'.row c k' hk2
      exact ⟨q1, q2, fun x hx2 => (r3 x hx2).mono hx⟩
  · have h0 : ∀ c, hn g .mk ≤ c → ((g.set b k).up (hn g' .mk)).get c = none := fun c hc => by
      show (g.set b k).get c = none
      rw [FQ, if_neg (by omega)]
      exact s.wf c hc
    refine fz.ok (g1 := (g.set b k).up (hn g' .mk)) s' (fun c _ hc => ?_) (fun c hc => h0 c hc) o'
    by_cases hlt : c < hn g .mk
    · show (g.set b k).get c = none
      rw [FQ]
      split
      · rename_i e; subst e; rw [hc] at hk; cases hk
      · rename_i e; exact (le.2 c hlt e).symm.trans hc
    · exact h0 c (by omega)
def H2.one (g : H2) (b : Nat) : H2 := ⟨g.n, fun c => if c = b then g.get b else none⟩
theorem dL {b : Nat} : hg (g.one b) b .mk = hg g b .mk := by show (if b = b then g.get b else none) = g.get b; rw [if_pos rfl]
abbrev fM (g : H2) (b : Nat) : X → X → Prop := Fz (fun c => c ≠ b) (fun _ => True) g
inductive Gl (g : H2) (b : Nat) : List X → List X → Prop
 | nil : Gl g b [] []
 | cons {x y : X} {xs ys : List X} : fM g b x y → Gl g b xs ys → Gl g b (x :: xs) (y :: ys)
theorem Gl.er {b : Nat} : ∀ {xs ys : List X}, Gl g b xs ys → ys.map Bi.er = xs.map Bi.er
 | _, _, .nil => rfl
 | _, _, .cons a b => by simp only [List.map_cons, Fz.er a, b.er]
theorem H7 {b c : Nat} : (g.one b).get c = if c = b then g.get b else none := rfl
theorem Gl.ok {b : Nat} {h : Heap} (s : S g h) : ∀ {xs ys : List X}, Gl g b xs ys → (∀ x ∈ xs, Ok h g x) → ∀ y ∈ ys, Ok h (g.one b) y
 | _, _, .nil, _, y, hy => by cases hy
 | _, _, .cons a r, o, y, hy => by
  rcases List.mem_cons.1 hy with rfl | hy
  ·exact a.ok s (fun c _ h0 => by rw [H7]; split <;> simp_all) (fun c hc => by rw [H7, if_neg hc]) (o _ (by simp))
  ·exact r.ok s (fun x hx => o x (by simp [hx])) y hy
theorem PB.lend {f : FuncId} {xs ys : List X} {b : Nat} {k0 : OB} {Q : OB → X → Prop} (hl : Gl g b xs ys) (h0 : hg g b .mk = some k0) (hr : ∀ x ∈ k0.cs, ∃ v, x = .raw v) (c : PB P W0 f ys (g.one b) b Q) (hq : ∀ k y, Q k y → Bu (fun c => hn g .mk ≤ c) y ∧ ∀ x ∈ k.cs, ∃ v, x = .raw v) : PB P W0 f xs g b Q := by
 intro h s o
 have h0 : g.get b = some k0 := h0
 have s1 : S (g.one b) h := ⟨s.n, fun c k hk => by
  rw [H7] at hk
  split at hk
  ·rename_i e
   subst e
   obtain ⟨r1, r2, r3⟩ := s.row _ _ hk
   rw [h0] at hk
   cases hk
   exact ⟨r1, r2, fun x hx => by obtain ⟨v, rfl⟩ := hr x hx; exact .raw⟩
  ·cases hk⟩
 rw [← hl.er]
 refine (c h s1 (hl.ok s o)).mono ?_
 rintro v h' ⟨y, g', rfl, s', x', o', k, h1, h2, h3⟩
 obtain ⟨n', rfl⟩ : ∃ n, g' = ((g.one b).set b k).up n := ⟨_, h1⟩
 have hbn : b < h.n := (s.row _ _ h0).1
 have g0 : ∀ c, (((g.one b).set b k).up n').get c = if c = b then some k else none := fun c => by
  show ((g.one b).set b k).get c = _
  rw [FQ]
  split
  ·rfl
  ·rename_i e; rw [H7, if_neg e]
 have hx : Ext g h ((g.set b k).up n') h' := ⟨x'.n, fun c hc hn0 => x'.keep c hc (by rw [H7]; split <;> simp_all), fun c hc hn0 => by
  show (g.set b k).get c = none
  rw [FQ]
  split
  ·rename_i e; subst e; rw [hn0] at h0; cases h0
  ·exact hn0⟩
 refine ⟨y, (g.set b k).up n', rfl, ⟨s'.n, fun d k' hk' => ?_⟩, hx, o'.weaken (hq k y h3).1 fun c hc _ => ?_, k, rfl, h2, h3⟩
 ·have hk' : (g.set b k).get d = some k' := hk'
  rw [FQ] at hk'
  by_cases e : d = b
  ·have r := s'.row d k' (by rw [g0, if_pos e]; rw [if_pos e] at hk'; exact hk')
   rw [if_pos e] at hk'
   obtain rfl := Option.some.inj hk'
   exact ⟨r.1, r.2.1, fun x hx2 => by obtain ⟨v, rfl⟩ := (hq k y h3).2 x hx2; exact .raw⟩
  ·rw [if_neg e] at hk'
   obtain ⟨r1, r2, r3⟩ := s.row d k' hk'
   exact ⟨Nat.lt_of_lt_of_le r1 x'.n, by rw [x'.keep d r1 (by rw [H7, if_neg e])]; exact r2, fun x hx2 => (r3 x hx2).mono hx⟩
 ·show (g.set b k).get c = none
  have : hn g .mk = h.n := s.n
  rw [FQ, if_neg (by omega)]
  exact s.wf c hc
end Go.Bi
end
section
namespace Go.Bi
open Go.Ai (Ar Heap WC)
variable {P : Program} {W0 : World} {g : H2} {K : KT} {p : Option Nat}
def DS : Option Nat → Value
 | none => .pointer none
 | some b => .pointer (some ⟨b, 0, none⟩)
def E7 (r s : Int) : OB := ⟨2, [.raw (.int .i64 r), .raw (.int .i64 s)]⟩
def gM (g : H2) (p : Option Nat) (r s : Int) : H2 := match p with
 | none => g
 | some b => g.set b (E7 r s)
def Mt (p : Option Nat) (g : H2) (r s : Int) : Prop := ∀ b, p = some b → b < hn g .mk ∧ hg g b .mk = some (E7 r s)
def AV (p : Option Nat) (g g' : H2) : Prop := hn g .mk ≤ hn g' .mk ∧ ∀ c, c < hn g .mk → p ≠ some c → hg g' c .mk = hg g c .mk
theorem Bj {r s : Int} : hn (gM g p r s) .mk = hn g .mk := by cases p <;> rfl
theorem BZ {r s : Int} {c : Nat} (h : (p == some c) = false) : hg (gM g p r s) c .mk = hg g c .mk := by
 cases p with
 | none => rfl
 | some b => show hg (g.set b _) c .mk = _; rw [BA, show (c == b) = false by simp at h ⊢; omega]; rfl
theorem Mt.none {r s : Int} : Mt none g r s := fun b h => by cases h
theorem Mt.ne {r s : Int} {c : Nat} (m : Mt p g r s) (hc : hn g .mk ≤ c) : (p == some c) = false := by
 cases p with
 | none => rfl
 | some b => have := (m b rfl).1; simp; omega
theorem Mt.le {g' : H2} {r s : Int} (m : Mt p g r s) (l : g.le g') : Mt p g' r s := fun b h => ⟨Nat.lt_of_lt_of_le (m b h).1 l.1, (l.2 b (m b h).1).trans (m b h).2⟩
theorem Mt.set {r s r' s' : Int} (m : Mt p g r s) : Mt p (gM g p r' s') r' s' := fun b h => by
 subst h
 exact ⟨(m b rfl).1, by show hg (g.set b _) b .mk = _; rw [BA, show (b == b) = true by simp]; rfl⟩
theorem Mt.up {r s : Int} {n : Nat} (m : Mt p g r s) (h : hn g .mk ≤ n) : Mt p (g.up n) r s := m.le (AK (H2.le.refl _) h)
theorem Mt.push {r s : Int} {k : OB} (m : Mt p g r s) : Mt p (g.push k) r s := m.le (le_push (H2.le.refl _))
theorem Mt.put {r s : Int} {k : OB} {c : Nat} (m : Mt p g r s) (h : (p == some c) = false) : Mt p (g.set c k) r s := fun b e => ⟨(m b e).1, by
 subst e
 rw [BA, show (b == c) = false by simp at h ⊢; omega]
 exact (m b rfl).2⟩
theorem AV.refl : AV p g g := ⟨Nat.le_refl _, fun _ _ _ => rfl⟩
theorem AV.le {g0 g1 g2 : H2} (o : AV p g0 g1) (l : g1.le g2) : AV p g0 g2 := ⟨Nat.le_trans o.1 l.1, fun c h1 h2 => (l.2 c (Nat.lt_of_lt_of_le h1 o.1)).trans (o.2 c h1 h2)⟩
theorem AV.of {g' : H2} (l : g.le g') : AV p g g' := ⟨l.1, fun c h1 _ => l.2 c h1⟩
theorem AV.trans {g0 g1 g2 : H2} (o : AV p g0 g1) (o' : AV p g1 g2) : AV p g0 g2 := ⟨Nat.le_trans o.1 o'.1, fun c h1 h2 => (o'.2 c (Nat.lt_of_lt_of_le h1 o.1) h2).trans (o.2 c h1 h2)⟩
theorem AV.up {g' : H2} {n : Nat} (o : AV p g g') (h : hn g' .mk ≤ n) : AV p g (g'.up n) := o.le (AK (H2.le.refl _) h)
theorem AV.push {g' : H2} {k : OB} (o : AV p g g') : AV p g (g'.push k) := o.le (le_push (H2.le.refl _))
theorem AV.gM {g' : H2} {r s : Int} (o : AV p g g') : AV p g (gM g' p r s) := ⟨by rw [Bj]; exact o.1, fun c h1 h2 => by rw [BZ (by cases p with | none => rfl | some b => simp at h2 ⊢; omega)]; exact o.2 c h1 h2⟩
theorem AV.put {g' : H2} {k : OB} {c : Nat} (o : AV p g g') (h : hn g .mk ≤ c) : AV p g (g'.set c k) := ⟨o.1, fun d h1 h2 => by rw [BA, show (d == c) = false by simp; omega]; exact o.2 d h1 h2⟩
theorem AV.at {g' : H2} {c : Nat} {k : OB} (o : AV p g g') (h1 : c < hn g .mk) (h2 : (p == some c) = false) (h : hg g c .mk = some k) : hg g' c .mk = some k :=
 (o.2 c h1 (by cases p with | none => simp | some b => simp at h2 ⊢; omega)).trans h
theorem Own.on {N : Nat} {g' : H2} {v : X} {z n : Nat} {cs : List X} {r s : Int} (ow : Own N g v z n cs) (o : AV p g g') (m : Mt p g r s) (hN : ∀ b, p = some b → b < N) : Own N g' v z n cs := by
 obtain ⟨h1, h3⟩ := ow
 refine ⟨h1, h3.imp_right ?_⟩
 rintro ⟨b, e1, e2, e3, e4⟩
 exact ⟨b, e1, e2, Nat.lt_of_lt_of_le e3 o.1, by rw [o.2 b e3 (fun e => by have := hN b e; omega)]; exact e4⟩
def PM (P : Program) (W0 : World) (f : FuncId) (xs : List X) (g : H2) (p : Option Nat) (r s : Int) (Q : X → Prop) : Prop :=
 A7 P W0 f xs g fun y g' => g' = (gM g p r s).up (hn g' .mk) ∧ hn g .mk ≤ hn g' .mk ∧ Q y
theorem PM.mono {f : FuncId} {xs : List X} {r s : Int} {Q Q' : X → Prop} (c : PM P W0 f xs g p r s Q) (hq : ∀ y, Q y → Q' y) : PM P W0 f xs g p r s Q' := A7.mono c fun y g' ⟨h1, h2, h3⟩ => ⟨h1, h2, hq y h3⟩
theorem Bm {f : FuncId} {xs : List X} {r s : Int} {Q : X → Prop} (c : PM P W0 f xs g p r s Q) (hk : ∀ y n, hn g .mk ≤ n → Q y → kz K y ((gM g p r s).up n) .mk) : wz P W0 f xs g K .mk :=
 A7.mono c fun y g' ⟨h1, h2, h3⟩ => by have := hk y _ h2 h3; rw [← h1] at this; exact this
theorem PM.of {q : Nat → Prop} {f : FuncId} {xs : List X} {r0 s0 r s : Int} {Q : X → Prop} (hb : Mt p g r0 s0)
  (c : A7 P W0 f xs g fun x g' => AV p g g' ∧ Mt p g' r s ∧ ∃ y, Fz (fun c => hn g .mk ≤ c) q g' x y ∧ Q y) :
  PM P W0 f xs g p r s fun y => Q y ∧ Bu (fun c => hn g .mk ≤ c ∨ q c) y := by
 cases p with
 | none => exact PW.of (c.mono fun x g' ⟨h1, _, h3⟩ => ⟨⟨h1.1, fun b hb => h1.2 b hb (by simp)⟩, h3⟩)
 | some b =>
  refine A7.mono (PB.of (q := q) (b := b) (Q := fun k y => k = E7 r s ∧ Q y) (hb b rfl).1 (c.mono fun x g' ⟨h1, h2, y, h3, h4⟩ => ⟨⟨h1.1, fun c h5 h6 => h1.2 c h5 (by simp; omega)⟩, y, _, (h2 b rfl).2, ?_, h3, rfl, h4⟩)) ?_
  ·intro x hx
   simp only [E7, List.mem_cons, List.not_mem_nil, or_false] at hx
   rcases hx with rfl | rfl <;> exact ⟨_, rfl⟩
  ·rintro y g' ⟨k, h1, h2, ⟨rfl, h3⟩, h4⟩
   exact ⟨h1, h2, h3, h4⟩
def dM (g : H2) : Option Nat → H2
 | none => g.bare
 | some b => g.one b
theorem CW : hn (dM g p) .mk = hn g .mk := by cases p <;> rfl
theorem Mt.bar {r s : Int} (m : Mt p g r s) : Mt p (dM g p) r s := fun b h => by
 subst h
 exact ⟨(m b rfl).1, by show hg (g.one b) b .mk = _; rw [dL]; exact (m b rfl).2⟩
abbrev gG (g : H2) (p : Option Nat) : X → X → Prop := Fz (fun c => p ≠ some c) (fun _ => True) g
inductive HC (g : H2) (p : Option Nat) : List X → List X → Prop
 | nil : HC g p [] []
 | cons {x y : X} {xs ys : List X} : gG g p x y → HC g p xs ys → HC g p (x :: xs) (y :: ys)
theorem Fz.imp {p q p' q' : Nat → Prop} {g : H2} {x y : X} (z : Fz p q g x y) (h1 : ∀ c, p c → p' c) (h2 : ∀ c, q c → q' c) : Fz p' q' g x y := by
 induction z with
 | raw => exact .raw
 | nil => exact .nil
 | own a b c d e f ih => exact .own a (h1 _ b) c d (fun i hi hi' => ih i hi hi') f
 | sl a => exact .sl (a.imp h2)
 | st a b ih => exact .st a fun i hi hi' => ih i hi hi'
 | tp a b ih => exact .tp a fun i hi hi' => ih i hi hi'
theorem HC.none : ∀ {xs ys : List X}, HC g none xs ys → Fu g xs ys
 | _, _, .nil => .nil
 | _, _, .cons a b => .cons (a.imp (fun _ _ => trivial) (fun _ _ => trivial)) b.none
theorem HC.some {b : Nat} : ∀ {xs ys : List X}, HC g (Option.some b) xs ys → Gl g b xs ys
 | _, _, .nil => .nil
 | _, _, .cons a r => .cons (a.imp (fun c h e => h (by rw [e])) (fun _ _ => trivial)) r.some
theorem PM.lend {f : FuncId} {xs ys : List X} {r0 s0 r s : Int} {Q : X → Prop} (hl : HC g p xs ys) (m : Mt p g r0 s0) (c : PM P W0 f ys (dM g p) p r s Q) (hq : ∀ y, Q y → Bu (fun c => hn g .mk ≤ c) y) : PM P W0 f xs g p r s Q := by
 cases p with
 | none => exact PW.lend hl.none c hq
 | some b =>
  refine A7.mono (PB.lend (Q := fun k y => k = E7 r s ∧ Q y) hl.some (m b rfl).2 ?_ (A7.mono c fun y g' ⟨h1, h2, h3⟩ => ⟨_, h1, h2, rfl, h3⟩) ?_) ?_
  ·intro x hx
   simp only [E7, List.mem_cons, List.not_mem_nil, or_false] at hx
   rcases hx with rfl | rfl <;> exact ⟨_, rfl⟩
  ·rintro k y ⟨rfl, h⟩
   refine ⟨hq y h, fun x hx => ?_⟩
   simp only [E7, List.mem_cons, List.not_mem_nil, or_false] at hx
   rcases hx with rfl | rfl <;> exact ⟨_, rfl⟩
  ·rintro y g' ⟨k, h1, h2, rfl, h3⟩
   exact ⟨h1, h2, h3⟩
attribute [go_sem] Bj CW
end Go.Bi
end
section
set_option maxRecDepth 20000
namespace Go.Bi
open Go.Proofs
open Go.Ai (wrap_i64 wrap_u64 wrap_u8 Heap)
variable {W0 : World} {P : Program}
set_option maxHeartbeats 4000000
theorem LS {F : Nat → AQ} {m : AR} {f : AQ} {x : List Int} {g : H2} (hm : C3 m = true) (hl : (x.length : Int) = m.width) (hx : Ay 127 x) : TI Tryz.prog W0 112 [.st (BV F m), .sl f 1 (ints x)] g (Az m x) := by
 obtain ⟨m1, m2, m3, m4, m5, m6⟩ := HL hm
 refine AH [[0, 1], [1, 2], [1, 2, 6], [6], [1, 2, 6], [1, 2, 6, 7], [1, 2, 6, 7], [1, 2, 6, 7], [6]] Tryz.func112 rfl (rs := [.tmp 4, .tmp 5]) rfl rfl ?_
 intro wf
 have e1 : decide (¬ (x.length : Int) = m.width) = false := decide_eq_false (fun h => h hl)
 have hne : (hn g .mk == hn g .mk + 1) = false := by simp
 refine DC hne ?_
 refine AD (IH (F := F) (WK hm)) ?_
 rintro _ n1 hn1 rfl
 simp only [AB] at hn1
 rw [hm]
 refine LM hne e1 ?_
 refine AD (BB (by omega)) ?_
 rintro _ n2 hn2 rfl
 simp only [AF] at hn2
 rw [BM hx (by omega)]
 refine zh ?_
 refine AJ [1, 2] (fun mm e h' => ∃ (i : Nat) (v : X), g.le h' ∧ hn g .mk + 1 ≤ hn h' .mk ∧ hg h' (hn g .mk) .mk = some ⟨5, [.raw (.int .i64 m.width), .sl (F 1) 1 (AE m.rows), .sl (F 2) 1 (AE m.scales), .raw (.int .i64 m.mul), .raw (.int .i64 m.shift)]⟩ ∧ look e 7 .mk = .raw (.int .i64 (i : Nat)) ∧ look e 6 .mk = v ∧ mm + i = m.rows.length ∧ Al (hn g .mk + 1) h' v ((Az m x).take i)) m.rows.length ?_ ?_
 ·refine ⟨0, _, ?_, by simp only [AF]; omega, by simp -dsimp -implicitDefEqProofs only [go_sem, Av, hne], AL, by simp -dsimp -implicitDefEqProofs only [go_sem] <;> rfl, by omega, ?_⟩
  ·exact AK (AK (le_push (le_push (H2.le.refl _))) (by simp only [AB]; omega)) (by simp only [AF]; omega)
  ·exact Own.keep (Own.new (g := g.push _) (by rw [AB]; exact Nat.le_refl _) rfl) (AK (AK (H2.le.refl _) (by simp only [AB]; omega)) (by simp only [AF]; omega))
 rintro mm e h' hks ⟨i, v, hle, nn, row, ei, ev, hmm, ow⟩
 simp -dsimp -implicitDefEqProofs only [go_sem, sQ1] at hks
 have c0 := AT ow
 by_cases q1 : (i : Int) < (m.rows.length : Int)
 ·have q2 : i < m.rows.length := by omega
  have q3 : i < m.scales.length := by omega
  have w1 := BE i (by omega)
  repeat (first | rw [ko] | rw [kr] | simp -dsimp -implicitDefEqProofs only [go_sem, sQ1, hks, ei, ev, q1, row])
  refine AO [(0, []), (1, []), (2, []), (3, []), (4, []), (5, []), (6, []), (7, []), (8, []), (9, []), (10, []), (11, []), (12, []), (13, []), (14, []), (15, [])] (by kernel_rfl) ?_
  repeat (first | rw [ko] | rw [kr] | simp -dsimp -implicitDefEqProofs only [go_sem, sQ1, q2, q3, row])
  refine AA (R8 (m6 i q2).2 hx (by have := (m6 i q2).1; omega)) ?_
  rintro _ _ ⟨rfl, rfl⟩
  refine zr ?_
  refine GS (P := Tryz.prog) (D := fun _ => none) Go.Ai.ty_el25 Go.Ai.ty_zr3 Go.Ai.ty_cl25 (by omega) ow hle (by omega) nn (by rw [List.length_take, CH]; omega) ?_
  intro v4 g4 ow4 le4 nn4 on4
  have row4 := (on4 (hn g .mk) (by omega)).trans row
  refine A1 w1 ?_
  exact AI (mm - 1) (by omega) AL ⟨i + 1, v4, le4, nn4, row4, AL, AL, by omega, (B0 q2).symm ▸ ow4⟩
 ·repeat (first | rw [ko] | rw [kr] | simp -dsimp -implicitDefEqProofs only [go_sem, sQ1, hks, ei, ev, q1, row, c0])
  have hi : i = (Az m x).length := by rw [CH]; omega
  rw [hi, List.take_length] at ow
  exact ⟨hle, v, rfl, ow.wide (by omega)⟩
theorem Ef {F : Nat → AQ} {m : AR} {f : AQ} {x : List Int} {g : H2} (hm : C3 m = true) (hl : (x.length : Int) = m.width) (hx : Ay 127 x) : TI Tryz.prog W0 155 [.st (BV F m), .sl f 1 (ints x)] g (Ad m x) := by
 obtain ⟨m1, m2, m3, m4, m5, m6⟩ := HL hm
 obtain ⟨sh, hsh⟩ := Int.eq_ofNat_of_zero_le m5.1
 have hwl : (Az m x).length = m.rows.length := CH
 have hwa := JU hm hx
 refine AH [[0, 1], [1, 2], [2, 6, 7], [2, 6, 7, 8], [2, 6, 7, 8, 9], [2, 6, 7, 8, 9], [2, 6, 7, 8, 9], [7, 8]] Tryz.func155 rfl (rs := [.tmp 4, .tmp 5]) rfl rfl ?_
 intro wf
 refine zh ?_
 refine AD (TI.pw (LS (F := F) hm hl hx)) ?_
 rintro _ n1 hn1 ⟨⟨f2, rfl⟩, _⟩
 simp only [AB] at hn1
 have hne : (hn g .mk == n1) = false := Cw
 refine zh ?_
 refine AJ [2, 6, 7] (fun mm e h' => ∃ (i : Nat) (v : X), g.le h' ∧ hn g .mk + 1 ≤ hn h' .mk ∧ hg h' (hn g .mk) .mk = some ⟨5, [.raw (.int .i64 m.width), .sl (F 1) 1 (AE m.rows), .sl (F 2) 1 (AE m.scales), .raw (.int .i64 m.mul), .raw (.int .i64 m.shift)]⟩ ∧ look e 9 .mk = .raw (.int .i64 (i : Nat)) ∧ look e 8 .mk = v ∧ mm + i = m.rows.length ∧ Al (hn g .mk + 1) h' v ((Ad m x).take i)) m.rows.length ?_ ?_
 ·exact ⟨0, _, le_push (AK (le_push (H2.le.refl _)) (by rw [AB]; exact hn1)), by simp only [AB, AF]; omega, by simp -dsimp -implicitDefEqProofs only [go_sem, Av, hne], AL, by simp -dsimp -implicitDefEqProofs only [go_sem] <;> rfl, by omega, Own.new (by simp only [AF]; omega) rfl⟩
 rintro mm e h' hks ⟨i, v, hle, nn, row, ei, ev, hmm, ow⟩
 simp -dsimp -implicitDefEqProofs only [go_sem, sQ1] at hks
 have c0 := AT ow
 by_cases q1 : (i : Int) < (m.rows.length : Int)
 ·have q2 : i < m.rows.length := by omega
  have q3 : i < (Az m x).length := by omega
  have w1 := BE i (by omega)
  have hxi := Ag (by omega) hwa i
  refine FD hks ei ev q1 hwl ?_
  refine AO [(0, []), (1, []), (2, []), (3, []), (4, []), (5, []), (6, []), (7, []), (8, []), (9, []), (10, []), (11, []), (12, []), (13, [])] (by kernel_rfl) ?_
  repeat (first | rw [ko] | rw [kr] | simp -dsimp -implicitDefEqProofs only [go_sem, sQ1, q2, row, hsh, hwl])
  refine AA (K5 (by omega) m4 (by omega)) ?_
  rintro _ _ ⟨rfl, rfl⟩
  refine zr ?_
  refine AA (CS (by omega) (by omega)) ?_
  rintro _ _ ⟨rfl, rfl⟩
  refine zr ?_
  refine GS (P := Tryz.prog) (D := fun _ => none) Go.Ai.ty_el25 Go.Ai.ty_zr3 Go.Ai.ty_cl25 (by omega) ow hle (by omega) nn (by rw [List.length_take, E5]; omega) ?_
  intro v4 g4 ow4 le4 nn4 on4
  have row4 := (on4 (hn g .mk) (by omega)).trans row
  have e4 : (Ad m x).take (i + 1) = (Ad m x).take i ++ [Gz (Gq ((Az m x).getD i default) m.mul sh) 127] := by
   have := BL (f := fun n => Gz (Gq n m.mul m.shift.toNat) 127) q3
   rw [show m.shift.toNat = sh by omega] at this
   unfold Ad Dw
   rw [show m.shift.toNat = sh by omega]
   exact this
  refine A1 w1 ?_
  exact AI (mm - 1) (by omega) AL ⟨i + 1, v4, le4, nn4, row4, AL, AL, by omega, e4 ▸ ow4⟩
 ·refine PY hks ei ev q1 c0 hwl ?_
  have hi : i = (Ad m x).length := by rw [E5]; omega
  rw [hi, List.take_length] at ow
  exact ⟨hle, v, rfl, ow.wide (by omega)⟩
theorem Oi {f : AQ} {x : List Int} {g : H2} (hx : Ay 127 x) (h1 : 1 ≤ x.length) (h8 : x.length ≤ 8) : PW Tryz.prog W0 208 [.sl f 1 (ints x)] g (fun y => y = .raw (.bool true)) := by
 refine PW.scalar ?_
 refine AH [[0], [0]] Tryz.func208 rfl (rs := [.tmp 2]) rfl rfl ?_
 intro wf
 refine zr ?_
 refine AA Ab ?_
 rintro _ g ⟨rfl, rfl⟩
 rw [A8 (by omega) (by omega)]
 refine zr ?_
 refine AD (BB (by omega)) ?_
 rintro _ n1 hn1 rfl
 rw [BM hx (by omega)]
 refine zr ?_
 exact ⟨AK (H2.le.refl _) hn1, ⟨_, rfl⟩, rfl⟩
theorem Na {f f' : AQ} {q k : List Int} {g : H2} (hq : Ay 127 q) (hk : Ay 127 k) (h1 : 1 ≤ q.length) (h8 : q.length ≤ 8) (hl : k.length = q.length) : PW Tryz.prog W0 160 [.sl f 1 (ints q), .sl f' 1 (ints k)] g (fun y => y = .tp [.raw (.int .i64 (BI q k)), .raw (.bool true)]) := by
 refine PW.two ?_
 refine AH [[0, 1], [0, 1], [], [0, 1], [0, 1, 6], [0, 1, 6, 7], [0, 1, 6, 7], [0, 1, 6, 7], [6]] Tryz.func160 rfl (rs := [.tmp 4, .tmp 5]) rfl rfl ?_
 intro wf
 have hle : (q.length : Int) = (k.length : Int) := by omega
 have e1 : decide (¬ (q.length : Int) = (k.length : Int)) = false := decide_eq_false (fun h => h hle)
 refine zr ?_
 refine AD (Oi hq h1 h8) ?_
 rintro _ n1 hn1 rfl
 refine zr ?_
 refine AD (Oi hk (by omega) (by omega)) ?_
 rintro _ n2 hn2 rfl
 refine A1 e1 ?_
 refine AJ [0, 1] (fun m e h' => ∃ (i : Nat), g.le h' ∧ look e 7 .mk = .raw (.int .i64 (i : Nat)) ∧ look e 6 .mk = .raw (.int .i64 (Aq (fun i => q.getD i default * k.getD i default) i)) ∧ m + i = q.length) q.length ?_ ?_
 ·exact ⟨0, by first | exact AK (AK (H2.le.refl _) hn1) hn2 | exact AK (H2.le.refl _) (Nat.le_trans hn1 hn2), AL, by simp -dsimp -implicitDefEqProofs only [go_sem] <;> rfl, by omega⟩
 rintro m e h' hks ⟨i, hle1, ei, es, hm⟩
 simp -dsimp -implicitDefEqProofs only [go_sem, sQ1] at hks
 by_cases q1 : (i : Int) < (q.length : Int)
 ·have q2 : i < q.length := by omega
  have q3 : i < k.length := by omega
  have w1 := BE i (by omega)
  have a := SF hq hk i
  have b := MS hq hk (n := i + 1) (by omega)
  have w3 := AX (x := q.getD i default * k.getD i default) (by omega)
  have w2 : IntKind.i64.wrap (Aq (fun i => q.getD i default * k.getD i default) i + q.getD i default * k.getD i default) = Aq (fun i => q.getD i default * k.getD i default) (i + 1) := AX (x := Aq (fun i => q.getD i default * k.getD i default) (i + 1)) (by omega)
  refine Cu hks ei es q1 ?_
  refine AO [(0, []), (1, []), (2, []), (3, []), (4, []), (5, []), (6, []), (7, []), (8, []), (9, []), (10, []), (11, [])] (by kernel_rfl) ?_
  refine FD q2 q3 w1 w3 w2 ?_
  exact AI (m - 1) (by omega) AL ⟨i + 1, hle1, AL, AL, by omega⟩
 refine Cu hks ei es q1 ?_
 obtain rfl : i = q.length := by omega
 refine AA (DU (by omega) (by have := MS hq hk h8; omega)) ?_
 rintro y _ ⟨hy, rfl⟩
 obtain rfl : y = .raw (.int .i64 (BI q k)) := hy
 refine zr ?_
 exact ⟨hle1, ⟨_, _, rfl⟩, rfl⟩
theorem Q9 {f : AQ} {l : List Int} {g : H2} (h1 : 1 ≤ l.length) (h32 : l.length ≤ 32) (hl : Ay 100000 l) : TI Tryz.prog W0 209 [.sl f 1 (ints l)] g (Bp l) := by
 refine AH [[0], [0], [0, 4], [4], [0, 4], [0, 4, 5], [0, 4, 5, 6], [0, 4, 5, 6], [0, 4, 5, 6], [0, 4, 6], [0, 4, 5], [0, 4, 5, 7], [0, 4, 5, 7, 8], [0, 4, 5, 7, 8], [0, 4, 5, 7, 8], [0, 4, 5, 7], [0, 4, 5, 7, 9], [0, 4, 5, 7, 9], [0, 4, 5, 7, 9], [4]] Tryz.func209 rfl (rs := [.tmp 2, .tmp 3]) rfl rfl ?_
 intro wf
 have i0 : (0 : Int) ≤ 0 := by omega
 have h0 : 0 < l.length := by omega
 refine zr ?_
 refine AA Ab ?_
 rintro _ _ ⟨rfl, rfl⟩
 rw [A8 (by omega) (by omega)]
 refine zr ?_
 refine AD (BB (by omega)) ?_
 rintro _ n1 hn1 rfl
 simp only [AB] at hn1
 rw [BM hl (by omega)]
 repeat (first | rw [ko] | rw [kr] | simp -dsimp -implicitDefEqProofs only [go_sem, sQ1, h0, i0, Int.toNat_zero])
 refine AJ [0, 4] (fun m e h' => ∃ (i : Nat), h' = (g.push ⟨1, []⟩).up n1 ∧ look e 6 .mk = .raw (.int .i64 (i : Nat)) ∧ look e 5 .mk = .raw (.int .i64 ((l.take i).foldl max (l.getD 0 default))) ∧ m + i = l.length) l.length ?_ ?_
 ·exact ⟨0, rfl, AL, by simp -dsimp -implicitDefEqProofs only [go_sem] <;> rfl, by omega⟩
 rintro m e h' hks ⟨i, rfl, ei, es, hm⟩
 simp -dsimp -implicitDefEqProofs only [go_sem, sQ1] at hks
 by_cases q1 : (i : Int) < (l.length : Int)
 ·have q2 : i < l.length := by omega
  have w1 := BE i (by omega)
  have em := Lw (a := l.getD 0 default) q2
  by_cases q3 : l.getD i default > (l.take i).foldl max (l.getD 0 default)
  ·have e5 : (l.take (i + 1)).foldl max (l.getD 0 default) = l.getD i default := by rw [em]; omega
   refine Tk hks ei es q1 q2 q3 w1 ?_
   exact AI (m - 1) (by omega) AL ⟨i + 1, rfl, AL, by rw [e5]; simp -dsimp -implicitDefEqProofs only [go_sem, sQ1], by omega⟩
  ·have e5 : (l.take (i + 1)).foldl max (l.getD 0 default) = (l.take i).foldl max (l.getD 0 default) := by rw [em]; omega
   refine Tk hks ei es q1 q2 q3 w1 ?_
   exact AI (m - 1) (by omega) AL ⟨i + 1, rfl, AL, by rw [e5]; simp -dsimp -implicitDefEqProofs only [go_sem, sQ1], by omega⟩
 have hi : i = l.length := by omega
 rw [hi, List.take_length] at es
 have es : look e 5 .mk = .raw (.int .i64 (HB l)) := es
 have hmx := P1 hl (by omega)
 refine Cu hks ei es q1 ?_
 refine AJ [0, 4, 5] (fun m e h' => ∃ (i : Nat), (g.push ⟨1, []⟩).le h' ∧ look e 8 .mk = .raw (.int .i64 (i : Nat)) ∧ look e 7 .mk = .raw (.int .i64 (Aq (fun i => (A6 l).getD i default) i)) ∧ m + i = l.length) l.length ?_ ?_
 ·exact ⟨0, AK (H2.le.refl _) hn1, AL, by simp -dsimp -implicitDefEqProofs only [go_sem] <;> rfl, by omega⟩
 rintro m2 e2 h2 hks2 ⟨i, hle2, ei2, es2, hm2⟩
 simp -dsimp -implicitDefEqProofs only [go_sem, sQ1] at hks2
 by_cases q1 : (i : Int) < (l.length : Int)
 ·have q2 : i < l.length := by omega
  have w1 := BE i (by omega)
  have hxi := Ag (by omega) hl i
  have w3 := AX (x := l.getD i default - HB l) (by omega)
  have b := Nt (l := l) (n := i + 1) (by omega)
  have w2 : IntKind.i64.wrap (Aq (fun i => (A6 l).getD i default) i + Gk (l.getD i default - HB l)) = Aq (fun i => (A6 l).getD i default) (i + 1) := by
   rw [← Hg q2]
   exact AX (x := Aq (fun i => (A6 l).getD i default) (i + 1)) (by omega)
  refine PY hks2 ei2 es2 q1 q2 w3 ?_
  refine AA TW ?_
  rintro _ _ ⟨rfl, rfl⟩
  refine C5 w1 w2 ?_
  exact AI (m2 - 1) (by omega) AL ⟨i + 1, hle2, AL, AL, by omega⟩
 have hi2 : i = l.length := by omega
 rw [hi2] at es2
 have sp := Ib (l := l) (by omega)
 refine Cu hks2 ei2 es2 q1 ?_
 refine AJ [0, 5, 7] (fun m e h' => ∃ (i : Nat) (v : X), g.le h' ∧ hn g .mk ≤ hn h' .mk ∧ look e 9 .mk = .raw (.int .i64 (i : Nat)) ∧ look e 4 .mk = v ∧ m + i = l.length ∧ Al (hn g .mk) h' v ((Bp l).take i)) l.length ?_ ?_
 ·exact ⟨0, _, (le_push (H2.le.refl _)).trans hle2, ((le_push (H2.le.refl _)).trans hle2).1, AL, by simp -dsimp -implicitDefEqProofs only [go_sem, sQ1] <;> rfl, by omega, Own.keep (Own.new (Nat.le_refl _) rfl) hle2⟩
 rintro m3 e3 h3 hks3 ⟨i, v, hle3, nn3, ei3, ev, hm3, ow⟩
 simp -dsimp -implicitDefEqProofs only [go_sem, sQ1] at hks3
 have c0 := AT ow
 by_cases q1 : (i : Int) < (l.length : Int)
 ·have q2 : i < l.length := by omega
  have w1 := BE i (by omega)
  have hxi := Ag (by omega) hl i
  have w3 := AX (x := l.getD i default - HB l) (by omega)
  have ein := FJ q2
  rw [Hg q2] at ein
  have w4 := AX (x := Gk (l.getD i default - HB l) * 256) (by omega)
  have ed : Int.tdiv (Gk (l.getD i default - HB l) * 256) (Aq (fun i => (A6 l).getD i default) l.length) = (Bp l).getD i default := by
   rw [J9 q2, Hg q2]
   exact Int.tdiv_eq_ediv_of_nonneg (by omega)
  have sh := Jf ((Bp l).getD i default) (BG (by rw [BP]; exact q2))
  have w5 := AX (x := (Bp l).getD i default) (by omega)
  have hz : (Aq (fun i => (A6 l).getD i default) l.length == 0) = false := by rw [beq_eq_false_iff_ne]; omega
  refine PY hks3 ei3 ev q1 q2 w3 ?_
  refine AA TW ?_
  rintro _ _ ⟨rfl, rfl⟩
  refine Cu w4 ed w5 hz ?_
  refine GS (P := Tryz.prog) (D := fun _ => none) Go.Ai.ty_el25 Go.Ai.ty_zr3 Go.Ai.ty_cl25 (by omega) ow hle3 (by omega) nn3 (by rw [List.length_take]; omega) ?_
  intro v4 g4 ow4 le4 nn4 on4
  have e4 : (Bp l).take (i + 1) = (Bp l).take i ++ [(Bp l).getD i default] := by
   have q3 : i < (Bp l).length := by rw [BP]; exact q2
   rw [List.take_succ_eq_append_getElem q3, List.getD_eq_getElem?_getD, List.getElem?_eq_getElem q3]
   rfl
  refine A1 w1 ?_
  exact AI (m3 - 1) (by omega) AL ⟨i + 1, v4, le4, nn4, AL, AL, by omega, e4 ▸ ow4⟩
 ·refine FD hks3 ei3 ev q1 c0 ?_
  have hi3 : i = (Bp l).length := by rw [BP]; omega
  rw [hi3, List.take_length] at ow
  exact ⟨hle3, v, rfl, ow⟩
end Go.Bi
end
section
set_option maxRecDepth 20000
namespace Go.Bi
open Go.Proofs
open Go.Ai (wrap_i64 wrap_u64 wrap_u8 Heap)
variable {W0 : World} {P : Program}
set_option maxHeartbeats 4000000
theorem Iv {g0 g g' : H2} {N : Nat} (l : g0.le g) (h : hn g0 .mk ≤ N) (n : N ≤ hn g' .mk) (on : ∀ c, c < N → hg g' c .mk = hg g c .mk) : g0.le g' := ⟨Nat.le_trans h n, fun c hc => (on c (Nat.lt_of_lt_of_le hc h)).trans (l.2 c hc)⟩
theorem AV.below {p : Option Nat} {g0 g g' : H2} {N : Nat} (l : AV p g0 g) (h : hn g0 .mk ≤ N) (n : N ≤ hn g' .mk) (on : ∀ c, c < N → hg g' c .mk = hg g c .mk) : AV p g0 g' := ⟨Nat.le_trans h n, fun c hc h2 => (on c (Nat.lt_of_lt_of_le hc h)).trans (l.2 c hc h2)⟩
theorem Mt.below {p : Option Nat} {g g' : H2} {N : Nat} {r s : Int} (m : Mt p g r s) (hN : ∀ b, p = some b → b < N) (n : N ≤ hn g' .mk) (on : ∀ c, c < N → hg g' c .mk = hg g c .mk) : Mt p g' r s := fun b e => ⟨Nat.lt_of_lt_of_le (hN b e) n, (on b (hN b e)).trans (m b e).2⟩
theorem V6 {α : Type} {e : α → List T} {z : Nat} (hE : Sx e (z + 1)) {g : H2} {K : KT} {t u U y N : Nat} {zs : List Value} {l : List α} {a : α} {cs : List X} {x : X} {f : AQ} (he : Go.Ai.elt? P t = some (U, z + 1, y)) (hz : Go.Ai.zr? P U = some zs) (hl : zs.length = z + 1) (hu : Go.Ai.cls? P u = some .sl)
  (hy : y ≤ 1000) (hx : Own N g x (z + 1) l.length cs) (hc : C9 e (z + 1) cs l) (hN : N ≤ hn g .mk) (hn0 : l.length ≤ 1048576)
  (hk : ∀ v' g' cs', Own N g' v' (z + 1) (l ++ [a]).length cs' → C9 e (z + 1) cs' (l ++ [a]) → N ≤ hn g' .mk → (∀ c, c < N → hg g' c .mk = hg g c .mk) → kz K v' g' .mk) :
  az (EN P (g.up (hn g .mk + 1)) .append [t, u] [x, .sl f (z + 1) [e a]] .mk) K .mk := by
 refine YF (l' := [a]) hE he hz hl hu (Own.keep hx (AK (H2.le.refl _) (Nat.le_succ _))) hc (by rw [AF]; omega) ?_ ?_
 ·have : Go.Ai.most = 1099511627776 := rfl
  have : (l.length + 1) * (y + 1) ≤ 1048577 * 1001 := Nat.mul_le_mul (by omega) (by omega)
  show (l.length + 1) * (y + 1) ≤ Go.Ai.most
  omega
 intro v' g' cs' o c n l k
 exact hk v' g' cs' o c n k
theorem D8 {N : Nat} {g : H2} {v : X} {z n : Nat} {cs : List X} (o : Own N g v z n cs) : A3 v = some [v] ∧ FC v = true ∧ Bg v = false := by
 obtain ⟨_, h⟩ := o
 rcases h with ⟨rfl, _⟩ | ⟨b, rfl, _⟩ <;> exact ⟨rfl, rfl, rfl⟩
theorem Al.put {N c : Nat} {g : H2} {v : X} {zs : List Int} {k : OB} (o : Al N g v zs) (h : c < N) : Al N (g.set c k) v zs := by
 obtain ⟨h1, h2⟩ := o
 exact ⟨h1, h2.imp_right fun ⟨b, e1, e2, e3, e4⟩ => ⟨b, e1, e2, e3, by rw [BA, show (b == c) = false by simp; omega]; exact e4⟩⟩
def Bq (x : List Int) (size n : Nat) : List (List Int) := (List.range n).map (A2 x size)
theorem CM {x : List Int} {size n : Nat} : (Bq x size n).length = n := by simp [Bq]
theorem NS {f : AQ} {x : List Int} {n size : Nat} {g : H2} (hn2 : n = 1 ∨ n = 2) (hs : 1 ≤ size) (hl : x.length = n * size) (h8 : x.length ≤ 8) : PW Tryz.prog W0 224 [.sl f 1 (ints x), .raw (.int .i64 n)] g (fun y => ∃ f, y = .tp [.sl f 1 (AE (Bq x size n)), .raw (.bool true)]) := by
  refine (PW.of (q := fun _ => True) (Q := fun y => ∃ f, y = .tp [.sl f 1 (AE (Bq x size n)), .raw (.bool true)]) ?_).mono fun y h => h.1
  refine AH [[0, 1], [0, 1], [], [0, 1], [0, 6], [0, 6, 7], [0, 6, 7, 8], [0, 6, 7, 8], [0, 6, 7, 8], [7]] Tryz.func224 rfl (rs := [.tmp 4, .tmp 5]) rfl rfl ?_
  intro wf
  have z1 : decide ((x.length : Int) = 0) = false := decide_eq_false (by rcases hn2 with rfl | rfl <;> omega)
  have z2 : decide (¬ ((0 : Int) = 0)) = false := by decide
  have z3 : ((n : Int) == 0) = false := by rw [beq_eq_false_iff_ne]; omega
  have t2 : Int.tmod (x.length : Int) (n : Int) = 0 := by show ((x.length % n : Nat) : Int) = 0; rw [hl, Nat.mul_mod_right]; rfl
  have t3 : Int.tdiv (x.length : Int) (n : Int) = (size : Int) := by show ((x.length / n : Nat) : Int) = _; rw [hl, Nat.mul_div_cancel_left _ (by omega)]
  have hs8 : size ≤ 8 := by rcases hn2 with rfl | rfl <;> omega
  have t4 : IntKind.i64.wrap (size : Int) = (size : Int) := by rw [wrap_i64] <;> omega
  refine zr ?_
  refine AA BQ ?_
  rintro _ g ⟨rfl, rfl⟩
  rw [A8 (by omega) (by omega)]
  refine FD z1 z3 t2 t3 t4 ?_
  refine AJ [0, 6] (fun m e h' => ∃ (k i : Nat) (v : X) (cs : List X), g.le h' ∧ hn g .mk ≤ hn h' .mk ∧ i = k * size ∧ look e 8 .mk = .raw (.int .i64 (i : Nat)) ∧ look e 7 .mk = v ∧ m + k = n ∧ Own (hn g .mk) h' v 1 ((Bq x size n).take k).length cs ∧ C9 Di 1 cs ((Bq x size n).take k)) n ?_ ?_
  · exact ⟨0, 0, _, [], le_push (H2.le.refl _), by simp only [AB]; omega, by omega, AL, by simp -dsimp -implicitDefEqProofs only [go_sem] <;> rfl, by omega, Own.new (Nat.le_refl _) rfl, .nil⟩
  rintro m e h' hks ⟨k, i, v, cs, hle, nn, hi, ei, ev, hm, ow, hc⟩
  simp -dsimp -implicitDefEqProofs only [go_sem, sQ1] at hks
  have c0 := D8 ow
  by_cases q1 : (i : Int) < (x.length : Int)
  · have q2 : k < n := by
      rw [hl, hi] at q1
      rcases Nat.lt_or_ge k n with h | h
      · exact h
      · have := Nat.mul_le_mul_right size h; omega
    have q3 : i + size ≤ x.length := by
      have := Nat.mul_le_mul_right size (show k + 1 ≤ n from q2)
      rw [Nat.succ_mul] at this
      omega
    have w1 : IntKind.i64.wrap ((i : Int) + (size : Int)) = ((i + size : Nat) : Int) := by rw [wrap_i64] <;> omega
    have q4 : (i : Int) ≤ ((i + size : Nat) : Int) := by omega
    have q5 : ((i + size : Nat) : Int) ≤ (x.length : Int) := by omega
    have q6 : (0 : Int) ≤ ((i + size : Nat) : Int) := by omega
    have q7 : i ≤ i + size := by omega
    have q8 : i + size - i = size := by omega
    have hh : (x.drop i).take size = A2 x size k := by unfold A2; rw [hi]
    have hhl : (A2 x size k).length ≤ 1048576 := by unfold A2; rw [List.length_take]; omega
    repeat (first | rw [ko] | rw [kr] | simp -dsimp -implicitDefEqProofs only [go_sem, sQ1, hks, ei, ev, q1, w1, q4, q5, q6, q8, CN, Int.toNat_natCast, hh])
    refine AD (PI.pw (NK hhl)) ?_
    rintro _ n1 hn1 ⟨⟨f2, rfl⟩, _⟩
    refine zr ?_
    refine V6 (P := Tryz.prog) (a := A2 x size k) VX Go.Ai.ty_el23 Go.Ai.ty_zr25 rfl Go.Ai.ty_cl23 (by omega) (Own.keep ow (AK (H2.le.refl _) hn1)) hc (by rw [AF]; omega) (by rw [List.length_take, CM]; omega) ?_
    intro v4 g4 cs4 ow4 hc4 nn4 on4
    have e4 : (Bq x size n).take (k + 1) = (Bq x size n).take k ++ [A2 x size k] := B0 q2
    rw [← e4] at ow4 hc4
    refine A1 w1 ?_
    exact AI (m - 1) (by omega) AL ⟨k + 1, i + size, v4, cs4, Iv (AK hle hn1) (Nat.le_refl _) nn4 on4, nn4, by rw [Nat.succ_mul]; omega, AL, AL, by omega, ow4, hc4⟩
  · have q2 : k = n := by
      rw [hl, hi] at q1
      rcases Nat.lt_or_ge k n with h | h
      · have := Nat.mul_le_mul_right size (show k + 1 ≤ n from h)
        rw [Nat.succ_mul] at this
        omega
      · omega
    refine FD hks ei ev q1 c0 ?_
    have hi : k = (Bq x size n).length := by rw [CM]; exact q2
    rw [hi, List.take_length] at ow hc
    obtain ⟨f, hf⟩ := Gf VX (p := fun b => hn g .mk ≤ b) ow hc (fun b hb => hb)
    exact ⟨hle, _, Z4 hf .raw, f, rfl⟩
theorem Nc {x : List Int} {sh i : Nat} (h : i < x.length) : ET (x.take (i + 1)) sh = (ET (x.take i) sh && inI (Gq (x.getD i default) 1 sh) (-15) 15) := by
 unfold ET
 rw [List.take_succ_eq_append_getElem h, List.all_append, List.getD_eq_getElem?_getD, List.getElem?_eq_getElem h]
 simp
theorem ZY {f : AQ} {x : List Int} {sh : Nat} {g : H2} (hx : Ay 127 x) (h8 : x.length ≤ 8) (hsh : sh ≤ 4) : A7 Tryz.prog W0 240 [.sl f 1 (ints x), .raw (.int .i64 sh)] g (fun y g' => g.le g' ∧ ∃ v, y = .tp [v, .raw (.bool (ET x sh))] ∧ Al (hn g .mk) g' v (FE x sh)) := by
 refine AH [[0, 1], [0, 1], [0, 1, 6], [0, 1, 6, 7], [1, 6, 7, 12, 13, 14], [1, 6, 7, 12, 13, 14], [1, 6, 7, 9, 12, 13, 14], [1, 6, 7, 10, 12, 13, 14], [1, 6, 7, 10, 12, 13, 14], [1, 6, 7, 12, 13, 14], [6, 7]] Tryz.func240 rfl (rs := [.tmp 4, .tmp 5]) rfl rfl ?_
 intro wf
 refine zr ?_
 refine AJ [1, 12, 13] (fun m e h' => ∃ (i : Nat) (v : X), g.le h' ∧ hn g .mk ≤ hn h' .mk ∧ look e 14 .mk = .raw (.int .i64 (i : Nat)) ∧ look e 6 .mk = v ∧ look e 7 .mk = .raw (.bool (ET (x.take i) sh)) ∧ m + i = x.length ∧ Al (hn g .mk) h' v ((FE x sh).take i)) x.length ?_ ?_
 ·exact ⟨0, _, le_push (H2.le.refl _), by simp only [AB]; omega, AL, by simp -dsimp -implicitDefEqProofs only [go_sem, sQ1] <;> rfl, by simp -dsimp -implicitDefEqProofs only [go_sem, sQ1] <;> rfl, by omega, Own.new (Nat.le_refl _) rfl⟩
 rintro m e h' hks ⟨i, v, hle, nn, ei, ev, eb, hm, ow⟩
 simp -dsimp -implicitDefEqProofs only [go_sem, sQ1] at hks
 have c0 := AT ow
 by_cases q1 : (i : Int) < (x.length : Int)
 ·have q2 : i < x.length := by omega
  have w1 := BE i (by omega)
  have hxi := Ag (by omega) hx i
  have hl2 : ((FE x sh).take i).length ≤ 1048576 := by rw [List.length_take]; omega
  refine PY hks ei ev eb q1 q2 ?_
  refine AA (Tp (by omega) (by omega) (by omega)) ?_
  rintro _ _ ⟨rfl, rfl⟩
  refine zr ?_
  refine AA (Ct (by omega) (by omega)) ?_
  rintro _ _ ⟨rfl, rfl⟩
  refine zr ?_
  refine GS (P := Tryz.prog) (D := fun _ => none) Go.Ai.ty_el25 Go.Ai.ty_zr3 Go.Ai.ty_cl25 (by omega) ow hle (by omega) nn hl2 ?_
  intro v4 g4 ow4 le4 nn4 on4
  have c4 := AT ow4
  have es := Nc (sh := sh) q2
  cases hb : ET (x.take i) sh
  ·rw [hb] at eb es
   refine A1 w1 ?_
   exact AI (m - 1) (by omega) AL ⟨i + 1, v4, le4, nn4, AL, AL, by rw [es]; simp -dsimp -implicitDefEqProofs only [go_sem, sQ1] <;> rfl, by omega, (BL q2).symm ▸ ow4⟩
  ·rw [hb] at eb es
   refine zr ?_
   refine AA BQ ?_
   rintro _ _ ⟨rfl, rfl⟩
   refine A1 w1 ?_
   exact AI (m - 1) (by omega) AL ⟨i + 1, v4, le4, nn4, AL, AL, by rw [es]; simp -dsimp -implicitDefEqProofs only [go_sem, sQ1] <;> rfl, by omega, (BL q2).symm ▸ ow4⟩
 ·refine PY hks ei ev eb q1 c0 ?_
  have hi : i = x.length := by omega
  have hi2 : i = (FE x sh).length := by unfold FE; rw [List.length_map]; omega
  rw [hi2, List.take_length] at ow
  rw [hi, List.take_length]
  exact ⟨hle, v, rfl, ow⟩
theorem TT {x : List Int} {sh : Nat} (h : ∀ j, j < sh → ET x j = false) (h4 : sh ≤ 4) (hb : ET x sh = true ∨ sh = 4) : Im x = sh := by
 unfold Im
 have : sh = 0 ∨ sh = 1 ∨ sh = 2 ∨ sh = 3 ∨ sh = 4 := by omega
 rcases this with rfl | rfl | rfl | rfl | rfl
 ·rcases hb with hb | hb
  ·rw [if_pos hb]
  ·omega
 ·rcases hb with hb | hb
  ·rw [if_neg (by rw [h 0 (by omega)]; decide), if_pos hb]
  ·omega
 ·rcases hb with hb | hb
  ·rw [if_neg (by rw [h 0 (by omega)]; decide), if_neg (by rw [h 1 (by omega)]; decide), if_pos hb]
  ·omega
 ·rcases hb with hb | hb
  ·rw [if_neg (by rw [h 0 (by omega)]; decide), if_neg (by rw [h 1 (by omega)]; decide), if_neg (by rw [h 2 (by omega)]; decide), if_pos hb]
  ·omega
 ·rw [if_neg (by rw [h 0 (by omega)]; decide), if_neg (by rw [h 1 (by omega)]; decide), if_neg (by rw [h 2 (by omega)]; decide), if_neg (by rw [h 3 (by omega)]; decide)]
def ep (N : Nat) (g : H2) (y : X) (x : List Int) : Prop := ∃ v, y = .tp [.st [.raw (.int .i64 (Im x)), v], .raw (.bool true)] ∧ Al N g v (FE x (Im x))
theorem Pd {f : AQ} {x : List Int} {g : H2} (hx : Ay 127 x) (h1 : 1 ≤ x.length) (h8 : x.length ≤ 8) : A7 Tryz.prog W0 225 [.sl f 1 (ints x)] g (fun y g' => g.le g' ∧ ep (hn g .mk) g' y x) := by
 refine AH [[0], [0, 2], [2], [0, 2], [0, 2, 4], [0, 2, 4], [0, 2, 4, 5, 6], [2, 4, 5]] Tryz.func225 rfl (rs := [.cell 2 196, .tmp 3]) rfl rfl ?_
 intro wf
 refine zh ?_
 refine AA BQ ?_
 rintro _ _ ⟨rfl, rfl⟩
 rw [A8 (by omega) (by omega)]
 refine zh ?_
 refine AD (BN (by omega)) ?_
 rintro _ n1 hn1 rfl
 rw [BM hx (by omega)]
 rw [AB] at hn1
 refine zh ?_
 refine AJ [0, 2] (fun m e h' => ∃ (sh : Nat), g.le h' ∧ hn g .mk + 1 ≤ hn h' .mk ∧ hg h' (hn g .mk) .mk = some ⟨2, [.raw (.int .i64 0), .raw (.slice none 0 0)]⟩ ∧ look e 4 .mk = .raw (.int .i64 (sh : Nat)) ∧ m + sh = 5 ∧ sh ≤ 4 ∧ ∀ j, j < sh → ET x j = false) 5 ?_ ?_
 ·exact ⟨0, AK (le_push (H2.le.refl _)) (by rw [AB]; exact hn1), by simp only [AF]; omega, by simp -dsimp -implicitDefEqProofs only [go_sem, Av], AL, by omega, by omega, fun j hj => by omega⟩
 rintro m e h' hks ⟨sh, hle, nn, row, ei, hm, h4, hpre⟩
 simp -dsimp -implicitDefEqProofs only [go_sem] at hks
 refine C5 hks ei ?_
 refine AA (ZY hx h8 h4) ?_
 rintro _ g2 ⟨l2, v, rfl, ow⟩
 have c0 := AT ow
 have row2 := (l2.2 (hn g .mk) (by omega)).trans row
 have w1 := BE sh (by omega)
 have fin : ∀ (hb : ET x sh = true ∨ sh = 4), Al (hn g .mk + 1) g2 v (FE x (Im x)) ∧ ((Im x : Nat) : Int) = sh := fun hb => by rw [TT hpre h4 hb]; exact ⟨ow.wide (by omega), rfl⟩
 cases hb : ET x sh
 ·by_cases h5 : sh = 4
  ·have e5 : decide ((sh : Int) = 4) = true := decide_eq_true (by omega)
   refine DH c0 row2 e5 ?_
   obtain ⟨o2, e2⟩ := fin (.inr h5)
   refine ⟨CF (hle.trans l2) (Nat.le_refl _), v, ?_, ?_⟩
   ·rw [e2]
   ·exact (Al.put o2 (by omega)).wide (by omega)
  ·have e5 : decide ((sh : Int) = 4) = false := decide_eq_false (by omega)
   refine C5 e5 w1 ?_
   exact AI (m - 1) (by omega) AL ⟨sh + 1, hle.trans l2, by have := l2.1; omega, row2, AL, by omega, by omega, fun j hj => by
    by_cases e : j = sh
    ·subst e; exact hb
    ·exact hpre j (by omega)⟩
 ·refine C5 c0 row2 ?_
  obtain ⟨o2, e2⟩ := fin (.inl hb)
  refine ⟨CF (hle.trans l2) (Nat.le_refl _), v, ?_, ?_⟩
  ·rw [e2]
  ·exact (Al.put o2 (by omega)).wide (by omega)
end Go.Bi
end
section
set_option maxRecDepth 20000
namespace Go.Bi
open Go.Proofs
open Go.Ai (wrap_i64 wrap_u64 wrap_u8 Heap)
variable {W0 : World} {P : Program}
set_option maxHeartbeats 4000000
theorem YX {n s : Int} (h : -15 ≤ n ∧ n ≤ 15) (hs : 0 ≤ s ∧ s ≤ 4) : Go.Ai.shlI .i64 n s = n * 2 ^ s.toNat := by
 unfold Go.Ai.shlI
 have : min s.toNat IntKind.i64.bits = s.toNat := by simp only [IntKind.bits]; omega
 rw [this]
 have hp := KD (m := s.toNat) (by omega)
 have := Br (a := 15) (b := 16777216) h ⟨by omega, hp.2⟩
 rw [AX (by omega)]
theorem W8 {p : At} (h : G4 p = true) : (0 ≤ p.shift ∧ p.shift ≤ 4) ∧ (1 ≤ p.values.length ∧ p.values.length ≤ 8) ∧ allI p.values (-15) 15 = true := by
 unfold G4 at h
 simp only [Bool.and_eq_true] at h
 have := Bs h.2.1
 exact ⟨Bs h.1, by omega, h.2.2⟩
theorem bU {F : Nat → AQ} {p : At} {g : H2} (hp : G4 p = true) : TI Tryz.prog W0 236 [.st (JE F p)] g (Dz p) := by
 obtain ⟨hsh, h8, h3⟩ := W8 hp
 have h3a := B3 h3 (n := 15) (by omega) (by omega)
 refine AH [[0], [1], [], [1], [1, 4], [1, 4, 26, 27, 28], [1, 4, 26, 27, 28], [1, 4, 6, 26, 27, 28], [1, 4, 26, 27, 28], [4]] Tryz.func236 rfl (rs := [.tmp 2, .tmp 3]) rfl rfl ?_
 intro wf
 refine zh ?_
 refine AA BQ ?_
 rintro _ _ ⟨rfl, rfl⟩
 rw [A8 hsh.1 hsh.2]
 refine zh ?_
 refine AA BQ ?_
 rintro _ _ ⟨rfl, rfl⟩
 rw [A8 (by omega) (by omega)]
 refine zh ?_
 refine AD (BN (by omega)) ?_
 rintro _ n1 hn1 rfl
 rw [AB] at hn1
 rw [h3]
 have hne : (hn g .mk == n1) = false := Cw
 refine DC hne ?_
 refine AJ [1, 26, 27] (fun m e h' => ∃ (i : Nat) (v : X), look e 28 .mk = .raw (.int .i64 (i : Nat)) ∧ look e 4 .mk = v ∧ m + i = p.values.length ∧ Al n1 h' v ((Dz p).take i) ∧ g.le h' ∧ n1 ≤ hn h' .mk ∧ hg h' (hn g .mk) .mk = some ⟨2, [.raw (.int .i64 p.shift), .sl (F 1) 1 (ints p.values)]⟩) p.values.length ?_ ?_
 ·refine ⟨0, _, AL, by simp -dsimp -implicitDefEqProofs only [go_sem, sQ1] <;> rfl, by omega, Own.new (by rw [AF]; exact Nat.le_refl _) rfl, le_push (AK (le_push (H2.le.refl _)) (by rw [AB]; exact hn1)), by simp only [AB, AF]; omega, ?_⟩
  simp -dsimp -implicitDefEqProofs only [go_sem, hne, Av]
 rintro m e h' hks ⟨i, v, e28, e4, hm, ow, hle, hn0, row⟩
 simp -dsimp -implicitDefEqProofs only [go_sem, sQ1] at hks
 by_cases q1 : (i : Int) < (p.values.length : Int)
 ·have q2 : i < p.values.length := by omega
  have w1 := BE i (by omega)
  have hsh0 := hsh.1
  have es := YX (Ag (by omega) h3a i) hsh
  repeat (first | rw [ko] | rw [kr] | simp -dsimp -implicitDefEqProofs only [go_sem, sQ1, hks, e28, e4, q1, q2, row, hsh0, es])
  refine AA (Ct (by omega) (by omega)) ?_
  rintro _ _ ⟨rfl, rfl⟩
  refine zr ?_
  refine GS (P := Tryz.prog) (D := fun _ => none) Go.Ai.ty_el25 Go.Ai.ty_zr3 Go.Ai.ty_cl25 (by omega) ow hle (by omega) hn0 (by rw [List.length_take]; omega) ?_
  intro v4 g4 ow4 le4 nn4 on4
  have row4 := (on4 (hn g .mk) (by omega)).trans row
  refine A1 w1 ?_
  exact AI (m - 1) (by omega) AL ⟨i + 1, v4, AL, AL, by omega, (BL q2).symm ▸ ow4, le4, nn4, row4⟩
 ·have c1 := (AT ow).2.2
  have hi : i = (Dz p).length := by rw [Jr]; omega
  refine FD hks e28 e4 q1 c1 ?_
  rw [hi, List.take_length] at ow
  exact ⟨hle, v, rfl, ow.wide (by omega)⟩
theorem Ym {x : Int} {g : H2} (hx : -127 ≤ x ∧ x ≤ 127) : A7 Tryz.prog W0 229 [.raw (.int .i64 x)] g (fun v g' => v = .raw (.int .i64 (C6 x)) ∧ g' = g) := by
 refine AH [[0], [0], [], [0]] Tryz.func229 rfl (rs := [.tmp 2]) rfl rfl ?_
 intro wf
 refine zr ?_
 refine AA BQ ?_
 rintro _ g ⟨rfl, rfl⟩
 rw [A8 hx.1 hx.2]
 refine zr ?_
 refine AA (Ct (by omega) (by omega)) ?_
 rintro _ g ⟨rfl, rfl⟩
 have hc := EY (x := x) (m := 128) (by omega)
 have w1 := AX (x := 128 + Gz x 128) (by omega)
 have b := Br hx (show -256 ≤ 128 + Gz x 128 ∧ 128 + Gz x 128 ≤ 256 by omega)
 have w2 := AX (x := x * (128 + Gz x 128)) (by omega)
 refine C5 w1 w2 ?_
 refine AA (Cs (by omega) (by omega)) ?_
 rintro _ g ⟨rfl, rfl⟩
 refine zr ?_
 exact ⟨rfl, rfl⟩
theorem Td {f f' : AQ} {x y : List Int} {g : H2} (hx : Ay 1000 x) (hy : Ay 1000 y) (hl : y.length = x.length) (h8 : x.length ≤ 8) : TI Tryz.prog W0 186 [.sl f 1 (ints x), .sl f' 1 (ints y)] g (Jd x y) := by
 refine AH [[0, 1], [0, 1], [], [0, 1], [0, 1, 6], [1, 6, 30, 31, 32], [1, 6, 30, 31, 32], [1, 6, 7, 8, 30, 31, 32], [1, 6, 30, 31, 32], [6]] Tryz.func186 rfl (rs := [.tmp 4, .tmp 5]) rfl rfl ?_
 intro wf
 have hle : (x.length : Int) = (y.length : Int) := by omega
 have e1 : decide (¬ (x.length : Int) = (y.length : Int)) = false := decide_eq_false (fun h => h hle)
 have e2 : ¬ (x.length : Int) > 8 := by omega
 refine C5 e1 e2 ?_
 refine AD (BN (by omega)) ?_
 rintro _ n1 hn1 rfl
 rw [BM hx (by omega)]
 refine zr ?_
 refine AD (BN (by omega)) ?_
 rintro _ n2 hn2 rfl
 rw [BM hy (by omega)]
 refine zr ?_
 have e3 : hn g .mk ≤ n2 := Nat.le_trans hn1 hn2
 refine AJ [1, 30, 31] (fun m e h' => ∃ (i : Nat) (v : X), g.le h' ∧ hn g .mk ≤ hn h' .mk ∧ look e 32 .mk = .raw (.int .i64 (i : Nat)) ∧ look e 6 .mk = v ∧ m + i = x.length ∧ Al (hn g .mk) h' v ((Jd x y).take i)) x.length ?_ ?_
 ·exact ⟨0, _, le_push (by first | exact AK (AK (H2.le.refl _) hn1) hn2 | exact AK (H2.le.refl _) e3), by simp only [AB, AF]; omega, AL, by simp -dsimp -implicitDefEqProofs only [go_sem, sQ1] <;> rfl, by omega, Own.new (by simp only [AF]; omega) rfl⟩
 rintro m e h' hks ⟨i, v, hle, nn, ei, ev, hm, ow⟩
 simp -dsimp -implicitDefEqProofs only [go_sem, sQ1] at hks
 have c0 := AT ow
 by_cases q1 : (i : Int) < (x.length : Int)
 ·have q2 : i < x.length := by omega
  have q3 : i < y.length := by omega
  have w1 := BE i (by omega)
  have a := Ag (by omega) hx i
  have b := Ag (by omega) hy i
  have w3 := AX (x := x.getD i default + y.getD i default) (by omega)
  refine Tk hks ei ev q1 q2 q3 w3 ?_
  refine AA (Ct (by omega) (by omega)) ?_
  rintro _ _ ⟨rfl, rfl⟩
  refine zr ?_
  refine GS (P := Tryz.prog) (D := fun _ => none) Go.Ai.ty_el25 Go.Ai.ty_zr3 Go.Ai.ty_cl25 (by omega) ow hle (by omega) nn (by rw [List.length_take]; omega) ?_
  intro v4 g4 ow4 le4 nn4 on4
  refine A1 w1 ?_
  exact AI (m - 1) (by omega) AL ⟨i + 1, v4, le4, nn4, AL, AL, by omega, (B0 q2).symm ▸ ow4⟩
 ·refine FD hks ei ev q1 c0 ?_
  have hi : i = (Jd x y).length := by rw [Hb]; omega
  rw [hi, List.take_length] at ow
  exact ⟨hle, v, rfl, ow⟩
def Au (n : Int) (l : List Int) : Int := l.foldl (fun a x => max (max a x) (-x)) n
theorem Ih {l : List Int} {i : Nat} {n : Int} (h : i < l.length) : Au n (l.take (i + 1)) = max (max (Au n (l.take i)) (l.getD i default)) (-(l.getD i default)) := by
 unfold Au
 rw [List.take_succ_eq_append_getElem h, List.foldl_append, List.getD_eq_getElem?_getD, List.getElem?_eq_getElem h]
 rfl
theorem KC {f : AQ} {n : Int} {l : List Int} {g : H2} (hl : Ay 10000000 l) (hn0 : l.length ≤ 1048576) : A7 Tryz.prog W0 137 [.raw (.int .i64 n), .sl f 1 (ints l)] g (fun v g' => v = .raw (.int .i64 (Au n l)) ∧ g' = g) := by
 refine AH [[0, 1], [0, 1], [0, 7, 8, 9], [0, 7, 8, 9], [0, 6, 7, 8, 9], [0, 7, 8, 9], [0]] Tryz.func137 rfl (rs := [.tmp 4]) rfl rfl ?_
 intro wf
 refine zr ?_
 refine AJ [7, 8] (fun m e h' => ∃ (i : Nat), h' = g ∧ look e 9 .mk = .raw (.int .i64 (i : Nat)) ∧ look e 0 .mk = .raw (.int .i64 (Au n (l.take i))) ∧ m + i = l.length) l.length ?_ ?_
 ·exact ⟨0, rfl, AL, by simp -dsimp -implicitDefEqProofs only [go_sem, sQ1] <;> rfl, by omega⟩
 rintro m e h' hks ⟨i, rfl, ei, es, hm⟩
 simp -dsimp -implicitDefEqProofs only [go_sem] at hks
 by_cases q1 : (i : Int) < (l.length : Int)
 ·have q2 : i < l.length := by omega
  have w1 := BE i (by omega)
  have a := Ag (by omega) hl i
  have w2 : IntKind.i64.wrap (0 - l.getD i default) = -(l.getD i default) := by rw [AX (by omega)]; omega
  repeat (first | rw [ko] | rw [kr] | simp -dsimp -implicitDefEqProofs only [go_sem, sQ1, hks, ei, es, q1, q2, w1, w2, Rf])
  exact AI (m - 1) (by omega) AL ⟨i + 1, rfl, AL, by rw [Ih q2]; simp -dsimp -implicitDefEqProofs only [go_sem, sQ1], by omega⟩
 ·refine Cu hks ei es q1 ?_
  have : i = l.length := by omega
  subst this
  exact ⟨by rw [List.take_length], rfl⟩
theorem IW {f : AQ} {ks : List (List At)} {h : Nat} {g : H2} (hk : ∀ i, i < ks.length → h < (ks.getD i default).length ∧ G4 ((ks.getD i default).getD h default) = true) (hn0 : ks.length ≤ 1000) : PW Tryz.prog W0 226 [.sl f 1 (An ks), .raw (.int .i64 h)] g (fun y => ∃ f, y = .sl f 1 (AE (Aa ks h))) := by
 refine (PW.of (q := fun _ => True) (Q := fun y => ∃ f, y = .sl f 1 (AE (Aa ks h))) ?_).mono fun y h => h.1
 refine AH [[0, 1], [0, 1], [0, 1, 5], [1, 5, 11, 12, 13], [1, 5, 11, 12, 13], [1, 5, 7, 11, 12, 13], [1, 5, 8, 11, 12, 13], [1, 5, 11, 12, 13], [5]] Tryz.func226 rfl (rs := [.tmp 4]) rfl rfl ?_
 intro wf
 refine zr ?_
 refine AJ [1, 11, 12] (fun m e h' => ∃ (i : Nat) (v : X) (cs : List X), g.le h' ∧ hn g .mk ≤ hn h' .mk ∧ look e 13 .mk = .raw (.int .i64 (i : Nat)) ∧ look e 5 .mk = v ∧ m + i = ks.length ∧ Own (hn g .mk) h' v 1 ((Aa ks h).take i).length cs ∧ C9 Di 1 cs ((Aa ks h).take i)) ks.length ?_ ?_
 ·exact ⟨0, _, [], le_push (H2.le.refl _), by simp only [AB]; omega, AL, by simp -dsimp -implicitDefEqProofs only [go_sem, sQ1] <;> rfl, by omega, Own.new (Nat.le_refl _) rfl, .nil⟩
 rintro m e h' hks ⟨i, v, cs, hle, nn, ei, ev, hm, ow, hc⟩
 simp -dsimp -implicitDefEqProofs only [go_sem, sQ1] at hks
 have c0 := D8 ow
 by_cases q1 : (i : Int) < (ks.length : Int)
 ·have q2 : i < ks.length := by omega
  obtain ⟨q3, q4⟩ := hk i q2
  have w1 := BE i (by omega)
  refine PY hks ei ev q1 q2 q3 ?_
  refine AD (TI.pw (bU (F := fun j => under (under (under (under f i) 0) h) j) q4)) ?_
  rintro _ n1 hn1 ⟨⟨f2, rfl⟩, _⟩
  refine zr ?_
  refine V6 (P := Tryz.prog) (a := Dz ((ks.getD i default).getD h default)) VX Go.Ai.ty_el23 Go.Ai.ty_zr25 rfl Go.Ai.ty_cl23 (by omega) (Own.keep ow (AK (H2.le.refl _) hn1)) hc (by rw [AF]; omega) (by rw [List.length_take]; omega) ?_
  intro v4 g4 cs4 ow4 hc4 nn4 on4
  have e4 : (Aa ks h).take (i + 1) = (Aa ks h).take i ++ [Dz ((ks.getD i default).getD h default)] := BL q2
  rw [← e4] at ow4 hc4
  refine A1 w1 ?_
  exact AI (m - 1) (by omega) AL ⟨i + 1, v4, cs4, Iv (AK hle hn1) (Nat.le_refl _) nn4 on4, nn4, AL, AL, by omega, ow4, hc4⟩
 ·refine Cu hks ei ev q1 ?_
  have hi : i = (Aa ks h).length := by unfold Aa; rw [List.length_map]; omega
  rw [hi, List.take_length] at ow hc
  obtain ⟨f, hf⟩ := Gf VX (p := fun b => hn g .mk ≤ b) ow hc (fun b hb => hb)
  exact ⟨hle, _, hf, f, rfl⟩
def Gx (F : Nat → AQ) (m : AM) (v : Value) : List X := BH F m ++ [.raw v]
theorem Wv {F : Nat → AQ} {m : AM} {v : Value} : Gx F m v = [.raw (.int .i64 m.dim), .raw (.int .i64 m.heads), .raw (.int .i64 m.context), .sl (F 3) 2 (AY m.merges), .sl (F 4) 1 (AE m.embed), .sl (F 5) 32 (Af m.layers), .sl (F 6) 1 (ints m.gainEnd), .raw (.int .i64 m.head.width), .sl (F 8) 1 (AE m.head.rows), .sl (F 9) 1 (AE m.head.scales), .raw (.int .i64 m.head.mul), .raw (.int .i64 m.head.shift), .sl (F 12) 1 (AE m.turns.cos), .sl (F 13) 1 (AE m.turns.sin), .raw v] := rfl
attribute [go_sem] Wv
theorem Ya {F : Nat → AQ} {m : AM} {v : Value} {g : H2} (ht : CA m) : PW Tryz.prog W0 222 [.st (Gx F m v)] g (fun y => y = .raw (.int .i64 (AW m : Nat))) := by
 refine PW.scalar ?_
 refine AH [[0], [1]] Tryz.func222 rfl (rs := [.tmp 2]) rfl rfl ?_
 intro wf
 obtain ⟨s1, s2, s3, s4, s5, s6, s7⟩ := FV ht
 have hz : (m.heads == 0) = false := by rw [beq_eq_false_iff_ne]; have := ht.heads; omega
 have w := AX (x := (AW m : Int)) (by omega)
 refine bW hz s3 w ?_
 exact ⟨le_push (H2.le.refl _), ⟨_, rfl⟩, rfl⟩
end Go.Bi
end
section
set_option maxRecDepth 20000
namespace Go.Bi
open Go.Proofs
open Go.Ai (wrap_i64 wrap_u64 wrap_u8)
variable {W0 : World} {P : Program}
set_option maxHeartbeats 4000000
def Gr (N : Nat) (g : H2) (v : X) (z n : Nat) (ts : List T) (bs : List Nat) : Prop := ∃ cs, Own N g v z n cs ∧ Ak g bs cs ts ∧ Bl N (hn g .mk) bs ∧ ∀ b, AP v = some b → b ∉ bs
theorem Gr.nil {N : Nat} {g : H2} {z : Nat} : Gr N g (.raw (.slice none 0 0)) z 0 [] [] := ⟨[], Own.nil, .nil, .nil, fun b hb => by cases hb⟩
theorem Gr.empty {N : Nat} {g : H2} {z : Nat} (hN : N ≤ hn g .mk) : Gr N (g.push ⟨z, []⟩) (.raw (.slice (some ⟨hn g .mk, 0, none⟩) 0 0)) z 0 [] [] := ⟨[], Own.new hN (by simp), .nil, .nil, fun b hb => by simp⟩
theorem Gr.keep {N : Nat} {g g' : H2} {v : X} {z n : Nat} {ts : List T} {bs : List Nat} (gr : Gr N g v z n ts bs) (l : g.le g') : Gr N g' v z n ts bs := by
 obtain ⟨cs, o, t, b, d⟩ := gr
 exact ⟨cs, o.keep l, t.keep l b, b.wide (Nat.le_refl _) l.n, d⟩
theorem Gr.cell {N : Nat} {g : H2} {v : X} {z n : Nat} {ts : List T} {bs : List Nat} (gr : Gr N g v z n ts bs) : A3 v = some [v] ∧ FC v = true ∧ Bg v = false := by
 obtain ⟨cs, o, _⟩ := gr
 obtain ⟨_, h⟩ := o
 rcases h with ⟨rfl, _⟩ | ⟨b, rfl, _⟩ <;> exact ⟨rfl, rfl, rfl⟩
theorem Gr.tree {N : Nat} {g : H2} {v : X} {z n : Nat} {es : List (List T)} {bs : List Nat} (gr : Gr N g v z n es.flatten bs) (hn' : n = es.length) (hz : ∀ e ∈ es, e.length = z) : ∃ bs', OT g bs' v (.l z es) ∧ Bl N (hn g .mk) bs' := by
  subst hn'
  obtain ⟨cs, ⟨hl, ho⟩, t, b, d⟩ := gr
  rcases ho with ⟨rfl, h0⟩ | ⟨q, rfl, h1, h2, h3⟩
  · have : es = [] := List.eq_nil_of_length_eq_zero h0
    subst this
    exact ⟨[], .nil, .nil⟩
  · exact ⟨q :: bs, .row h3 hl rfl hz t, List.nodup_cons.2 ⟨d q rfl, b.1⟩, fun x hx => by
      rcases List.mem_cons.1 hx with rfl | hx
      · exact ⟨h1, h2⟩
      · exact b.2 x hx⟩
theorem Ld {b n z : Nat} {cs : List X} : ∀ {l : List X} {ts : List T} {j : Nat}, CR l = some ts → (∀ q x, l[q]? = some x → cs[j + q]? = some x) → Gv (under (FY b n z cs) 0) j ts = l
 | [], ts, j, h, _ => by simp only [CR, Option.some.injEq] at h; subst h; rfl
 | x :: l, ts, j, h, hx => by
  simp only [CR] at h
  cases h1 : Jc x with
  | none => rw [h1] at h; cases h
  | some t =>
   cases h2 : CR l with
   | none => rw [h1, h2] at h; cases h
   | some r =>
    rw [h1, h2] at h
    simp only [Option.some.injEq] at h
    subst h
    have ih := Ld (b := b) (n := n) (z := z) (cs := cs) (j := j + 1) h2 fun q y hy => by
     have := hx (q + 1) y hy
     rwa [show j + (q + 1) = j + 1 + q by omega] at this
    have hc : cs[j]? = some x := hx 0 x rfl
    have e1 : ∀ p, FY b n z cs (0 :: j :: p) = Qe p x := fun p => by
     simp only [FY, Nat.zero_mul, Nat.zero_add, List.getD_eq_getElem?_getD, hc, Option.getD_some]
    simp only [Gv, ih]
    congr 1
    cases x with
    | raw v =>
     simp only [Jc] at h1
     split at h1 <;> cases h1
     rfl
    | sl f z' es =>
     simp only [Jc, Option.some.injEq] at h1
     subst h1
     show X.sl _ _ _ = X.sl _ _ _
     congr 1
     funext p
     exact e1 p
    | pr a f c => simp [Jc] at h1
    | st xs => simp [Jc] at h1
    | tp xs => simp [Jc] at h1
theorem Hi {g : H2} {K : KT} {z : Nat} {cs : List X} (hz : cs.length = z)
  (hk : ∀ w g', E0 g' z w = some (1, cs) → g.le g' → kz K w g' .mk) : SS 1 z cs (CR cs) g K .mk := by
 cases ht : CR cs with
 | none =>
  rw [X3]
  refine hk _ _ ?_ (le_push (H2.le.refl _))
  exact aU (N := 0) (Own.new (Nat.zero_le _) (by omega))
 | some ts =>
  rw [Xi]
  refine hk _ _ ?_ (AK (H2.le.refl _) (Nat.le_succ _))
  have hl : ts.length = z := by rw [← hz]; exact (GC ht).1
  simp only [E0, if_true]
  have e : chunk z (0 + 1) ts = [ts] := by simp only [chunk, List.take_of_length_le (Nat.le_of_eq hl)]
  rw [e]
  have := Ld (b := hn g .mk) (n := 0 + 1) (z := z) (cs := cs) (l := cs) (j := 0) ht fun q x hq => by rw [Nat.zero_add]; exact hq
  simp only [CC, this, List.append_nil, List.length_cons, List.length_nil]
theorem VT {D : Nat → Option (List Nat)} {g : H2} {K : KT} {t u U z y N n : Nat} {zs : List Value} {v w : X} {ys : List X} {ts us : List T} {bs b2 : List Nat} (he : Go.Ai.elt? P t = some (U, z + 1, y)) (hz : Go.Ai.zr? P U = some zs) (hl : zs.length = z + 1) (hu : Go.Ai.cls? P u = some .sl)
    (gr : Gr N g v (z + 1) n ts bs) (hs : E0 g (z + 1) w = some (1, ys)) (o : Ak g b2 ys us) (hyl : ys.length = z + 1) (hN : N ≤ hn g .mk) (hlo : ∀ b ∈ b2, N ≤ b ∧ b < hn g .mk) (hnd : b2.Nodup) (hdj : ∀ b ∈ bs, b ∉ b2) (hdv : ∀ b, AP v = some b → b ∉ b2) (hn0 : (n + 1) * (y + 1) ≤ Go.Ai.most)
    (hk : ∀ v' g', Gr N g' v' (z + 1) (n + 1) (ts ++ us) (bs ++ b2) → hn g .mk ≤ hn g' .mk → (∀ g0 : H2, hn g0 .mk ≤ N → g0.le g → g0.le g') → (∀ b, b < hn g .mk → AP v ≠ some b → hg g' b .mk = hg g b .mk) → kz K v' g' .mk) :
    az (EN P g .append [t, u] [v, w] .mk) K .mk := by
  obtain ⟨cs, ⟨hlen0, hcase⟩, oc, bl, dv⟩ := gr
  have hok := Ak.okx o
  have hbl : Bl N (hn g .mk) (bs ++ b2) := ⟨List.nodup_append.2 ⟨bl.1, hnd, fun x hx y hy e => hdj x hx (e ▸ hy)⟩, fun x hx => by
    rcases List.mem_append.1 hx with hx | hx
    · exact bl.2 x hx
    · exact hlo x hx⟩
  have key : ∀ a, v = .raw (.slice a n n) → EN P g .append [t, u] [v, w] .mk = (match a with
        | none => some (.raw (.slice (some ⟨g.n, 0, none⟩) 1 1), g.push ⟨z + 1, ys⟩)
        | some a => match g.get a.block with
          | some k => if k.z = z + 1 ∧ a.off = 0 then (Jl k.cs 0 (n * (z + 1))).map fun olds => (.raw (.slice (some ⟨g.n, 0, none⟩) (n + 1) (n + 1)), (g.kill a.block).push ⟨z + 1, olds ++ ys⟩) else none
          | none => none) := by
    intro a ha
    subst ha
    simp only [EN, B1, hu, Gb, he, hs, hz]
    rw [if_pos ⟨hl, hn0, hok⟩, if_neg (by omega)]
    rfl
  have hmv : ∀ b : Nat, (b == b) = true := by simp
  rcases hcase with ⟨rfl, rfl⟩ | ⟨b, rfl, hNb, hbn, hb⟩
  · have hcs : cs = [] := List.eq_nil_of_length_eq_zero (by omega)
    subst hcs
    rw [key none rfl]
    have hle : ∀ b, b < hn g .mk → hg (g.push ⟨z + 1, ys⟩) b .mk = hg g b .mk := fun b' hb' => by
      rw [Ap, show (b' == hn g .mk) = false by simp; omega]; rfl
    refine hk _ _ ⟨ys, ⟨by omega, .inr ⟨g.n, rfl, hN, by rw [AB]; exact Nat.lt_succ_self _, ?_⟩⟩, ?_, hbl.wide (Nat.le_refl _) (by rw [AB]; omega), ?_⟩ (by rw [AB]; omega) (fun g0 _ l0 => le_push l0) (fun b' h1 _ => hle b' h1)
    · rw [Ap]; show Go.Bi.hk (g.n == g.n) _ _ _ _ = _; rw [hmv]; rfl
    · have := (oc.append o)
      rw [List.nil_append] at this
      exact this.frame fun x hx => hle x (hbl.2 x hx).2
    · intro b' e hx
      simp only [AP, Option.some.injEq] at e
      have := (hbl.2 b' hx).2
      unfold hn at this; omega
  · have hb' : g.get b = some ⟨z + 1, cs⟩ := hb
    rw [key _ rfl]
    simp only [hb']
    rw [if_pos ⟨trivial, trivial⟩, Gi hlen0]
    have hle : ∀ b', b' < hn g .mk → b' ≠ b → hg ((g.kill b).push ⟨z + 1, cs ++ ys⟩) b' .mk = hg g b' .mk := fun b' h1 h2 => by
      rw [Ap, Bh, show (b' == hn g .mk) = false by simp; omega, FB, FO, show (b' == b) = false by simp [h2]]; rfl
    refine hk _ _ ⟨cs ++ ys, ⟨by simp [hlen0, hyl, Nat.add_mul], .inr ⟨g.n, rfl, hN, by rw [AB, Bh]; exact Nat.lt_succ_self _, ?_⟩⟩, ?_, hbl.wide (Nat.le_refl _) (by rw [AB, Bh]; omega), ?_⟩ (by rw [AB, Bh]; omega) (fun g0 h0 l0 => le_push (JF l0 (by omega))) (fun b' h1 h2 => hle b' h1 (fun e => h2 (by rw [e]; rfl)))
    · rw [Ap, Bh]; show Go.Bi.hk (g.n == g.n) _ _ _ _ = _; rw [hmv]; rfl
    · exact (oc.append o).frame fun x hx => hle x (hbl.2 x hx).2 fun e => by
        rcases List.mem_append.1 hx with hx | hx
        · exact dv b rfl (e ▸ hx)
        · exact hdv b rfl (e ▸ hx)
    · intro b' e hx
      simp only [AP, Option.some.injEq] at e
      have := (hbl.2 b' hx).2
      unfold hn at this; omega
theorem Gr.bl {N : Nat} {g : H2} {v : X} {z n : Nat} {ts : List T} {bs : List Nat} (gr : Gr N g v z n ts bs) : ∀ b ∈ bs, N ≤ b ∧ b < hn g .mk := by
 obtain ⟨cs, o, t, b, d⟩ := gr
 exact b.2
theorem Gr.lt {N : Nat} {g : H2} {v : X} {z n : Nat} {ts : List T} {bs : List Nat} (gr : Gr N g v z n ts bs) : ∀ b, AP v = some b → N ≤ b ∧ b < hn g .mk := by
 obtain ⟨cs, ⟨_, h⟩, _⟩ := gr
 rcases h with ⟨rfl, _⟩ | ⟨q, rfl, h1, h2, _⟩
 ·intro b e; cases e
 ·intro b e; simp only [AP, Option.some.injEq] at e; subst e; exact ⟨h1, h2⟩
end Go.Bi
end
