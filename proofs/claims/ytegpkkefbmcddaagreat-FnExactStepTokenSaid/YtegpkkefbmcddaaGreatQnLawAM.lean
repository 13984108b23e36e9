/- Own lemmas that the theorem of this claim needs: the abstract machine and walks of functions. -/
import Derived.Test.YtegpkkefbmcddaaGreatQnLawAL
set_option linter.unusedSimpArgs false
set_option linter.unusedVariables false
open Nat renaming reduceBEq → sQ1, reduceAdd → sQ2, reduceLeDiff → sQ3, reduceMul → sQ4
open Int renaming reduceLE → sQ5, reduceLT → sQ6, reduceBEq → sQ7
section
set_option maxRecDepth 20000
namespace Go.Bi
open Go.Proofs
open Go.Ai (wrap_i64 Heap)
variable {W0 : World} {P : Program}
set_option maxHeartbeats 4000000
theorem indexC_ok {F : FuncId} {p : LCell → Bool} {caps : List Value} {f : Adr} {ss : List LCell} {h : H2} (hn0 : ss.length ≤ 1048576)
  (hf : ∀ (i : Nat), i < ss.length → ∀ (F' : Nat → Adr) (h' : H2), h.le h' → PW Tryz.prog W0 F ([.st (xCell F' (ss.getD i default))] ++ caps.map .raw) h' (fun v => v = .raw (.bool (p (ss.getD i default))))) :
  PW Tryz.prog W0 130 [.sl f 2 (rCellS ss), .raw (.func (.func F) #[] caps.toArray)] h (fun v => ∃ k : Int, v = .raw (.int .i64 k) ∧ decide (0 ≤ k) = ss.any p) := by
 refine PW.scalar ((?_ : WC2 _ _ _ _ _ fun v g' => h.le g' ∧ ∃ k : Int, v = .raw (.int .i64 k) ∧ decide (0 ≤ k) = ss.any p).mono fun v g' ⟨h1, k, h2, h3⟩ => ⟨h1, ⟨_, h2⟩, k, h2, h3⟩)
 refine begins [[0, 1], [0, 1], [0, 1, 7, 8], [0, 1, 7, 8], [0, 1, 5, 7, 8], [5], [0, 1, 7, 8], []] Tryz.func130 rfl (rs := [.tmp 4]) rfl rfl ?_
 intro wf
 repeat (first | rw [ko] | rw [kr] | simp -dsimp -implicitDefEqProofs only [go_sem])
 refine lz_keep [0, 1, 7] (fun m e h' => h.le h' ∧ ∃ k : Nat, look e 8 .mk = .raw (.int .i64 k) ∧ m + k = ss.length ∧ ∀ j : Nat, j < k → p (ss.getD j default) = false) ss.length ?_ ?_
 ·exact ⟨H2.le.refl _, 0, zsm, by omega, fun j hj => by omega⟩
 ·rintro m e h' hks ⟨hle, k, e8, hk, hpre⟩
  simp -dsimp -implicitDefEqProofs only [go_sem, sQ1] at hks
  repeat (first | rw [ko] | rw [kr] | simp -dsimp -implicitDefEqProofs only [go_sem, hks, e8])
  refine gz_dec (fun h2 => ?_) (fun h2 => ?_)
  ·have h3 : k < ss.length := by omega
   repeat (first | rw [ko] | rw [kr] | simp -dsimp -implicitDefEqProofs only [go_sem, sQ1, sQ2, sQ3, h3])
   refine pw_intro (hf k h3 (fun j => under (under f k) j) _ hle) ?_
   rintro _ n hn1 rfl
   repeat (first | rw [ko] | rw [kr] | simp -dsimp -implicitDefEqProofs only [go_sem])
   refine gz_intro (fun h4 => ?_) (fun h4 => ?_)
   ·repeat (first | rw [ko] | rw [kr] | simp -dsimp -implicitDefEqProofs only [go_sem, sQ1])
    exact ⟨le_up hle hn1, _, rfl, by rw [any_getD h3 h4]; simp⟩
   ·repeat (first | rw [ko] | rw [kr] | simp -dsimp -implicitDefEqProofs only [go_sem, sQ1, wrap_succ h3 (by omega)])
    refine nx_keep (m - 1) (by omega) zsm ⟨le_up hle hn1, k + 1, zsm, by omega, fun j hj => ?_⟩
    by_cases hji : j = k
    ·subst hji; exact h4
    ·exact hpre j (by omega)
  ·repeat (first | rw [ko] | rw [kr] | simp -dsimp -implicitDefEqProofs only [go_sem])
   exact ⟨hle, _, rfl, by rw [any_none fun j hj => hpre j (by omega)]; rfl⟩
theorem containsC_ok {F : FuncId} {p : LCell → Bool} {caps : List Value} {f : Adr} {ss : List LCell} {h : H2} (hn0 : ss.length ≤ 1048576)
  (hf : ∀ (i : Nat), i < ss.length → ∀ (F' : Nat → Adr) (h' : H2), h.le h' → PW Tryz.prog W0 F ([.st (xCell F' (ss.getD i default))] ++ caps.map .raw) h' (fun v => v = .raw (.bool (p (ss.getD i default))))) :
  PW Tryz.prog W0 61 [.sl f 2 (rCellS ss), .raw (.func (.func F) #[] caps.toArray)] h (fun v => v = .raw (.bool (ss.any p))) := by
 refine PW.scalar ?_
 refine begins [[0, 1], [0, 1]] Tryz.func61 rfl (rs := [.tmp 4]) rfl rfl ?_
 intro wf
 repeat (first | rw [ko] | rw [kr] | simp -dsimp -implicitDefEqProofs only [go_sem])
 refine pw_intro (indexC_ok hn0 hf) ?_
 rintro _ n hn1 ⟨k, rfl, hk⟩
 repeat (first | rw [ko] | rw [kr] | simp -dsimp -implicitDefEqProofs only [go_sem, hk])
 exact ⟨le_up (H2.le.refl _) hn1, ⟨_, rfl⟩, rfl⟩
end Go.Bi
end
section
set_option maxRecDepth 20000
namespace Go.Bi
open Go.Proofs
open Go.Ai (wrap_i64 Heap)
variable {W0 : World} {P : Program}
set_option maxHeartbeats 4000000
def smallC (l : List LCell) : Prop := l.length ≤ 1048576 ∧ ∀ i, i < l.length → smallPP (l.getD i default).keys ∧ smallPP (l.getD i default).values
theorem l18Cells_ok {f : Adr} {F : Nat → Adr} {l : List LCell} {m : LModel} {g : H2} (hd : m.dim = 4 ∨ m.dim = 8) (hk : m.heads = 1 ∨ m.heads = 2) (hs : smallC l) : PW Tryz.prog W0 50 [.st (xModel F m), .sl f 2 (rCellS l)] g (fun y => y = .raw (.bool (!(l.any fun c => !cellB c m)))) := by
 obtain ⟨s1, s2⟩ := id hs
 refine PW.scalar ?_
 refine begins [[0, 1], [1, 2], [1, 2, 5], [1, 2, 5], [1, 2, 5], [], []] Tryz.func50 rfl (rs := [.tmp 4]) rfl rfl ?_
 intro wf
 repeat (first | rw [ko] | rw [kr] | simp -dsimp -implicitDefEqProofs only [go_sem, hoo])
 refine lz_keep [1, 2] (fun mm e h' => ∃ (i : Nat), g.le h' ∧ hg h' (hn g .mk) .mk = some ⟨14, [.raw (.int .i64 m.dim), .raw (.int .i64 m.heads), .raw (.int .i64 m.context), .sl (F 3) 2 (rMergeS m.merges), .sl (F 4) 1 (rIntSS m.embed), .sl (F 5) 32 (rLayerS m.layers), .sl (F 6) 1 (ints m.gainEnd), .raw (.int .i64 m.head.width), .sl (F 8) 1 (rIntSS m.head.rows), .sl (F 9) 1 (rIntSS m.head.scales), .raw (.int .i64 m.head.mul), .raw (.int .i64 m.head.shift), .sl (F 12) 1 (rIntSS m.turns.cos), .sl (F 13) 1 (rIntSS m.turns.sin)]⟩ ∧ look e 5 .mk = .raw (.int .i64 (i : Nat)) ∧ mm + i = l.length ∧ ∀ j, j < i → cellB (l.getD j default) m = true) l.length ?_ ?_
 ·exact ⟨0, le_push (H2.le.refl _), by simp -dsimp -implicitDefEqProofs only [go_sem, hoo], zsm, by omega, fun j hj => by omega⟩
 rintro mm e h' hks ⟨i, hle, row, ei, hm, hpre⟩
 simp -dsimp -implicitDefEqProofs only [go_sem] at hks
 by_cases q1 : (i : Int) < (l.length : Int)
 ·have q2 : i < l.length := by omega
  have w1 := zwrs i (by omega)
  repeat (first | rw [ko] | rw [kr] | simp -dsimp -implicitDefEqProofs only [go_sem, sQ1, hks, ei, q1])
  refine dq_intro [(0, []), (1, []), (2, []), (3, []), (4, []), (5, []), (6, [])] (by kernel_rfl) ?_
  repeat (first | rw [ko] | rw [kr] | simp -dsimp -implicitDefEqProofs only [go_sem, sQ1, sQ2, sQ3, q2, row])
  refine pw_intro (l14Cell_ok (F := F) (F' := fun j => under (under f i) j) (c := l.getD i default) hd hk (s2 i q2)) ?_
  rintro _ n3 hn3 rfl
  cases q5 : cellB (l.getD i default) m
  ·repeat (first | rw [ko] | rw [kr] | simp -dsimp -implicitDefEqProofs only [go_sem])
   exact ⟨le_up hle hn3, ⟨_, rfl⟩, by rw [any_getD (p := fun c => !cellB c m) q2 (by simp only [q5]; rfl)]; rfl⟩
  ·repeat (first | rw [ko] | rw [kr] | simp -dsimp -implicitDefEqProofs only [go_sem, sQ1, w1])
   refine nx_keep (mm - 1) (by omega) zsm ⟨i + 1, le_up hle hn3, by simp -dsimp -implicitDefEqProofs only [go_sem, row], zsm, by omega, fun j hj => ?_⟩
   by_cases hji : j = i
   ·subst hji; exact q5
   ·exact hpre j (by omega)
 ·repeat (first | rw [ko] | rw [kr] | simp -dsimp -implicitDefEqProofs only [go_sem, sQ1, hks, ei, q1])
  exact ⟨hle, ⟨_, rfl⟩, by rw [any_none fun j hj => by rw [hpre j (by omega)]; rfl]; rfl⟩
end Go.Bi
end
section
set_option maxRecDepth 20000
namespace Go.Bi
open Go.Proofs
open Go.Ai (wrap_i64 Heap)
variable {W0 : World} {P : Program}
set_option maxHeartbeats 4000000
def lastI (c : Int) (i : Nat) : Int := if c - (i : Int) * 4 < 4 then c - (i : Int) * 4 else 4
end Go.Bi
end
section
set_option maxRecDepth 20000
namespace Go.Bi
def rowL (s : LStore) (t : LTable) (i : Nat) : List LCell := s.pages.getD (t.pages.getD i default).toNat default
def cellsL (s : LStore) (t : LTable) (k : Nat) : List LCell := (List.range k).flatMap fun i => (rowL s t i).take (lastI t.count i).toNat
end Go.Bi
end
section
set_option maxRecDepth 20000
namespace Go.Bi
open Go.Proofs
open Go.Ai (wrap_i64 Heap)
variable {W0 : World} {P : Program}
set_option maxHeartbeats 4000000
theorem allT_true : (t : T) → ∀ (f : Adr), AllT (fun _ => True) f t
 | .v _, _ => .v
 | .l z es, f => .l (fun _ _ _ _ => trivial) fun i j t h => by
  have : SizeOf.sizeOf t < SizeOf.sizeOf (T.l z es) := by
   cases he : es[i]? with
   | none => simp [he] at h
   | some e =>
    simp only [he, Option.bind_some] at h
    have h1 := List.sizeOf_lt_of_mem (List.mem_of_getElem? h)
    have h2 := List.sizeOf_lt_of_mem (List.mem_of_getElem? he)
    simp only [T.l.sizeOf_spec]
    omega
  exact allT_true t _
termination_by t => SizeOf.sizeOf t
decreasing_by exact this
theorem toTs_app : ∀ {a b : List X} {x y : List T}, toTs a = some x → toTs b = some y → toTs (a ++ b) = some (x ++ y)
 | [], b, x, y, h1, h2 => by simp only [toTs, Option.some.injEq] at h1; subst h1; exact h2
 | c :: a, b, x, y, h1, h2 => by
  simp only [List.cons_append, toTs] at h1 ⊢
  cases hc : toT c with
  | none => rw [hc] at h1; cases h1
  | some t =>
   cases ha : toTs a with
   | none => rw [hc, ha] at h1; cases h1
   | some r =>
    rw [hc, ha] at h1
    simp only [Option.some.injEq] at h1
    subst h1
    rw [toTs_app ha h2]; rfl
end Go.Bi
end
section
set_option maxRecDepth 20000
namespace Go.Bi
open Go.Proofs
open Go.Ai (wrap_i64 Heap)
variable {W0 : World} {P : Program} {α : Type}
set_option maxHeartbeats 4000000
structure Ele (e : α → List T) (z : Nat) : Prop where
 len : ∀ a, (e a).length = z
 cell : ∀ a, ∀ t ∈ e a, (∃ n, t = .v (.int .i64 n)) ∨ ∃ k es, t = .l k es
def ERow (e : α → List T) (z : Nat) (cs : List X) (l : List α) : Prop := toTs cs = some (l.flatMap e) ∧ (∀ x ∈ cs, (∃ n, x = .raw (.int .i64 n)) ∨ ∃ f k es, x = .sl f k es) ∧ cs.length = l.length * z
theorem ERow.nil {e : α → List T} {z : Nat} : ERow e z [] [] := ⟨rfl, by simp, by simp⟩
theorem ERow.app {e : α → List T} {z : Nat} {a b : List X} {l l' : List α} (h : ERow e z a l) (h' : ERow e z b l') : ERow e z (a ++ b) (l ++ l') :=
 ⟨by rw [List.flatMap_append]; exact toTs_app h.1 h'.1, fun x hx => (List.mem_append.1 hx).elim (h.2.1 x) (h'.2.1 x), by rw [List.length_append, h.2.2, h'.2.2, List.length_append, Nat.add_mul]⟩
theorem ERow.ok {e : α → List T} {z : Nat} {cs : List X} {l : List α} (h : ERow e z cs l) : cs.all okX = true := by
 rw [List.all_eq_true]
 intro x hx
 rcases h.2.1 x hx with ⟨n, rfl⟩ | ⟨f, k, es, rfl⟩ <;> rfl
theorem mkL_E {f : Adr} : ∀ {ts : List T} {j : Nat}, (∀ t ∈ ts, (∃ n, t = .v (.int .i64 n)) ∨ ∃ k es, t = .l k es) → toTs (mkL f j ts) = some ts ∧ (∀ x ∈ mkL f j ts, (∃ n, x = .raw (.int .i64 n)) ∨ ∃ f k es, x = .sl f k es) ∧ (mkL f j ts).length = ts.length
 | [], _, _ => ⟨rfl, by simp [mkL], rfl⟩
 | t :: ts, j, h => by
  obtain ⟨h1, h2, h3⟩ := mkL_E (f := f) (ts := ts) (j := j + 1) fun t ht => h t (List.mem_cons_of_mem _ ht)
  rcases h t List.mem_cons_self with ⟨n, rfl⟩ | ⟨k, es, rfl⟩
  ·refine ⟨?_, ?_, by simp [mkL, h3]⟩
   ·simp only [mkL, mkC, toTs_cons, toT_int, h1, toTc_some]
   ·intro x hx
    simp only [mkL, mkC, List.mem_cons] at hx
    rcases hx with rfl | hx
    ·exact .inl ⟨_, rfl⟩
    ·exact h2 x hx
  ·refine ⟨?_, ?_, by simp [mkL, h3]⟩
   ·simp only [mkL, mkC, toTs_cons, toT_sl, h1, toTc_some]
   ·intro x hx
    simp only [mkL, mkC, List.mem_cons] at hx
    rcases hx with rfl | hx
    ·exact .inr ⟨_, _, _, rfl⟩
    ·exact h2 x hx
theorem flat_E {e : α → List T} {z : Nat} (he : Ele e z) {f : Adr} : ∀ {l : List α} {i : Nat}, ERow e z (flatX f i (l.map e)) l
 | [], _ => .nil
 | a :: l, i => by
  have h := flat_E he (f := f) (l := l) (i := i + 1)
  obtain ⟨h1, h2, h3⟩ := mkL_E (f := under f i) (j := 0) (he.cell a)
  have h4 : ERow e z (mkL (under f i) 0 (e a)) [a] := ⟨by rw [h1]; simp, h2, by rw [h3, he.len]; simp⟩
  exact h4.app h
theorem chunk_E {e : α → List T} {z : Nat} (he : Ele e z) : ∀ {l : List α}, chunk z l.length (l.flatMap e) = l.map e
 | [] => rfl
 | a :: l => by
  have := chunk_E he (l := l)
  show chunk z (l.length + 1) (e a ++ l.flatMap e) = e a :: l.map e
  simp only [chunk]
  rw [← he.len a, List.take_left', List.drop_left']
  ·rw [he.len a, this]
  ·rfl
  ·rfl
theorem erow_fz {e : α → List T} {z : Nat} (he : Ele e z) {p : Nat → Prop} {N : Nat} {g : H2} {x : X} {cs : List X} {l : List α} (o : Own N g x z l.length cs) (hc : ERow e z cs l) (hp : ∀ b, N ≤ b → p b) : ∃ f, Fz p (fun _ => True) g x (.sl f z (l.map e)) := by
 have := Own.fz (p := p) (q := fun _ => True) o hp (fun c hx => by
  rcases hc.2.1 c hx with ⟨n, rfl⟩ | ⟨f, k, es, rfl⟩
  ·exact .raw
  ·exact .sl (.sl (allT_true _ _))) hc.1
 rwa [chunk_E he] at this
theorem append_E {e : α → List T} {z : Nat} (hE : Ele e (z + 1)) {g : H2} {K : KT} {t u U y N : Nat} {zs : List Value} {l l' : List α} {cs : List X} {x : X} {f : Adr} (he : Go.Ai.elt? P t = some (U, z + 1, y)) (hz : Go.Ai.zr? P U = some zs) (hl : zs.length = z + 1) (hu : Go.Ai.cls? P u = some .sl)
  (hx : Own N g x (z + 1) l.length cs) (hc : ERow e (z + 1) cs l) (hN0 : N ≤ hn g .mk) (hn0 : (l.length + l'.length) * (y + 1) ≤ Go.Ai.most)
  (hk : ∀ v' g' cs', Own N g' v' (z + 1) (l ++ l').length cs' → ERow e (z + 1) cs' (l ++ l') → N ≤ hn g' .mk → (∀ g0 : H2, hn g0 .mk ≤ N → g0.le g → g0.le g') → (∀ b, b < N → hg g' b .mk = hg g b .mk) → kz K v' g' .mk) :
  az (biz P g .append [t, u] [x, .sl f (z + 1) (l'.map e)] .mk) K .mk := by
 have h2 : ERow e (z + 1) (flatX f 0 (l'.map e)) l' := flat_E hE
 refine append_own (z := z) (N := N) (m := l'.length) (news := flatX f 0 (l'.map e)) he hz hl hu hx hN0 ?_ h2.2.2 h2.ok hn0 ?_
 ·simp only [srcX, if_true, List.length_map]
 intro v' g' o nn le on
 refine hk v' g' (cs ++ flatX f 0 (l'.map e)) ?_ (hc.app h2) (by omega) le fun b hb => on b (by omega) fun e => ?_
 ·rw [List.length_append]
  exact o
 ·obtain ⟨_, h⟩ := hx
  rcases h with ⟨rfl, _⟩ | ⟨q, rfl, a1, _⟩
  ·cases e
  ·simp only [blockOf, Option.some.injEq] at e; omega
theorem eleN : Ele (fun n : Int => [T.v (.int .i64 n)]) 1 := ⟨fun _ => rfl, fun a t ht => by simp only [List.mem_singleton] at ht; exact .inl ⟨_, ht⟩⟩
theorem eleI : Ele eIntS 1 := ⟨fun _ => rfl, fun a t ht => by simp only [eIntS, List.mem_singleton] at ht; exact .inr ⟨_, _, ht⟩⟩
theorem eleP : Ele ePart 2 := ⟨fun _ => rfl, fun a t ht => by
 simp only [ePart, List.mem_cons, List.not_mem_nil, or_false] at ht
 rcases ht with rfl | rfl
 ·exact .inl ⟨_, rfl⟩
 ·exact .inr ⟨_, _, rfl⟩⟩
theorem elePS : Ele ePartS 1 := ⟨fun _ => rfl, fun a t ht => by simp only [ePartS, List.mem_singleton] at ht; exact .inr ⟨_, _, ht⟩⟩
end Go.Bi
end
section
set_option maxRecDepth 20000
namespace Go.Bi
open Go.Proofs
open Go.Ai (wrap_i64 Heap)
variable {W0 : World} {P : Program}
set_option maxHeartbeats 4000000
abbrev TI (P : Program) (W0 : World) (f : FuncId) (xs : List X) (g : H2) (zs : List Int) : Prop := WC2 P W0 f xs g fun y g' => g.le g' ∧ ∃ v, y = .tp [v, .raw (.bool true)] ∧ OwnI (hn g .mk) g' v zs
theorem fz2 {p q : Nat → Prop} {g : H2} {x y x2 y2 : X} (h : Fz p q g x y) (h2 : Fz p q g x2 y2) : Fz p q g (.tp [x, x2]) (.tp [y, y2]) := .tp rfl fun i hi hi' => by
 rcases i with _ | _ | i
 ·exact h
 ·exact h2
 ·simp at hi; omega
theorem TI.pw {f : FuncId} {xs : List X} {g : H2} {zs : List Int} (c : TI P W0 f xs g zs) : PW P W0 f xs g fun y => (∃ f, y = .tp [.sl f 1 (ints zs), .raw (.bool true)]) ∧ AllB (fun b => hn g .mk ≤ b) y := by
 refine (PW.of (q := fun b => hn g .mk ≤ b) (Q := fun y => ∃ f, y = .tp [.sl f 1 (ints zs), .raw (.bool true)]) (c.mono ?_)).mono fun y ⟨h1, h2⟩ => ⟨h1, h2.imp fun b hb => hb.elim id id⟩
 rintro x g' ⟨le, v, rfl, ow⟩
 obtain ⟨f, hf⟩ := ow.fz (p := fun b => hn g .mk ≤ b) (q := fun b => hn g .mk ≤ b) fun _ h => h
 exact ⟨le, _, fz2 hf .raw, f, rfl⟩
theorem PW.two {f : FuncId} {xs : List X} {g : H2} {Q : X → Prop} (c : WC2 P W0 f xs g fun x g' => g.le g' ∧ (∃ a b, x = .tp [.raw a, .raw b]) ∧ Q x) : PW P W0 f xs g Q :=
 (PW.of (q := fun _ => True) (Q := Q) (c.mono fun x g' ⟨h1, ⟨a, b, h2⟩, h3⟩ => ⟨h1, x, by subst h2; exact fz2 .raw .raw, h3⟩)).mono fun y h => h.1
theorem getW {l : List Int} {i : Nat} (h : i < l.length) : (l.map cI)[i]? = some (.raw (.int .i64 (l.getD i default))) := by
 rw [List.getElem?_map, List.getElem?_eq_getElem h, List.getD_eq_getElem?_getD, List.getElem?_eq_getElem h]; rfl
theorem wrtW {l : List Int} {i : Nat} {v : Int} (h : i < l.length) : wrtL (l.map cI) i [.raw (.int .i64 v)] = some ((l.set i v).map cI) := by
 rw [wrt_set (by simpa using h), List.map_set]; rfl
def updI (f : Int → Int) (l : List Int) (i : Nat) : List Int := (l.map f).take i ++ l.drop i
theorem upd_len {f : Int → Int} {l : List Int} {i : Nat} (h : i ≤ l.length) : (updI f l i).length = l.length := by simp [updI]; omega
theorem upd_at {f : Int → Int} {l : List Int} {i : Nat} (h : i < l.length) : (updI f l i).getD i default = l.getD i default := by
 unfold updI
 rw [List.getD_eq_getElem?_getD, List.getElem?_append_right (by simp; omega), List.getD_eq_getElem?_getD]
 simp [Nat.min_eq_left (Nat.le_of_lt h)]
theorem upd_set {f : Int → Int} {l : List Int} {i : Nat} (h : i < l.length) : (updI f l i).set i (f (l.getD i default)) = updI f l (i + 1) := by
 unfold updI
 rw [mapL_snoc h, List.set_append_right _ _ (by simp; omega)]
 have : i - ((l.map f).take i).length = 0 := by simp; omega
 rw [this, List.drop_eq_getElem_cons h, List.set_cons_zero, List.append_assoc]
 rfl
theorem upd_all {f : Int → Int} {l : List Int} : updI f l l.length = l.map f := by
 unfold updI
 rw [List.drop_length, List.append_nil, List.take_of_length_le (by simp)]
theorem ownI_inv {N : Nat} {g : H2} {v : X} {zs : List Int} (o : OwnI N g v zs) (h : 0 < zs.length) : ∃ b, v = .raw (.slice (some ⟨b, 0, none⟩) zs.length zs.length) ∧ N ≤ b ∧ b < hn g .mk ∧ hg g b .mk = some ⟨1, zs.map cI⟩ := by
 obtain ⟨_, ⟨_, h0⟩ | h2⟩ := o
 ·omega
 ·exact h2
theorem ownI_mk {N b : Nat} {g : H2} {zs : List Int} {n : Nat} (hn1 : n = zs.length) (h1 : N ≤ b) (h2 : b < hn g .mk) (h3 : hg g b .mk = some ⟨1, zs.map cI⟩) : OwnI N g (.raw (.slice (some ⟨b, 0, none⟩) n n)) zs := by
 subst hn1
 exact ⟨by simp, .inr ⟨b, rfl, h1, h2, h3⟩⟩
theorem max_succ {l : List Int} {i : Nat} {a : Int} (h : i < l.length) : (l.take (i + 1)).foldl max a = max ((l.take i).foldl max a) (l.getD i default) := by
 rw [List.take_succ_eq_append_getElem h, List.foldl_append, List.getD_eq_getElem?_getD, List.getElem?_eq_getElem h]
 rfl
theorem maxA_ok {f : Adr} {l : List Int} {g : H2} (h0 : 0 < l.length) (hl : l.length ≤ 1048576) : WC2 Tryz.prog W0 85 [.sl f 1 (ints l)] g (fun v g' => v = .raw (.int .i64 (maxI l)) ∧ g' = g) := by
 refine begins [[0], [0], [0], [0], [0, 3], [0, 3, 4], [0, 3, 4], [0, 3, 4], [3]] Tryz.func85 rfl (rs := [.tmp 2]) rfl rfl ?_
 intro wf
 have e0 : ¬ (l.length : Int) < 1 := by omega
 have i0 : (0 : Int) ≤ 0 := by omega
 repeat (first | rw [ko] | rw [kr] | simp -dsimp -implicitDefEqProofs only [go_sem, sQ1, e0, h0, i0, Int.toNat_zero])
 refine lz_keep [0] (fun m e h' => ∃ (i : Nat), h' = g ∧ look e 4 .mk = .raw (.int .i64 (i : Nat)) ∧ look e 3 .mk = .raw (.int .i64 ((l.take i).foldl max (l.getD 0 default))) ∧ m + i = l.length + 1 ∧ i ≤ l.length) l.length ?_ ?_
 ·refine ⟨1, rfl, by simp -dsimp -implicitDefEqProofs only [go_sem] <;> rfl, ?_, by omega, by omega⟩
  have e1 : (l.take 1).foldl max (l.getD 0 default) = l.getD 0 default := by rw [max_succ h0]; simp
  rw [e1]
  simp -dsimp -implicitDefEqProofs only [go_sem]
 rintro m e h' hks ⟨i, rfl, ei, es, hm, hi1⟩
 simp -dsimp -implicitDefEqProofs only [go_sem] at hks
 by_cases q1 : (i : Int) < (l.length : Int)
 ·have q2 : i < l.length := by omega
  have w1 := zwrs i (by omega)
  repeat (first | rw [ko] | rw [kr] | simp -dsimp -implicitDefEqProofs only [go_sem, sQ1, hks, ei, es, q1, q2, w1])
  exact nx_keep (m - 1) (by omega) zsm ⟨i + 1, rfl, zsm, by rw [max_succ q2]; simp -dsimp -implicitDefEqProofs only [go_sem, sQ1, mxI_eq], by omega, by omega⟩
 ·repeat (first | rw [ko] | rw [kr] | simp -dsimp -implicitDefEqProofs only [go_sem, sQ1, hks, ei, es, q1])
  have : i = l.length := by omega
  subst this
  exact ⟨by unfold maxI; rw [List.take_length], rfl⟩
theorem scoreA_ok {f f' : Adr} {q k : List Int} {g : H2} (hq : absB 127 q) (hk : absB 127 k) (h1 : 1 ≤ q.length) (h8 : q.length ≤ 8) (hl : k.length = q.length) : PW Tryz.prog W0 241 [.sl f 1 (ints q), .sl f' 1 (ints k)] g (fun y => y = .tp [.raw (.int .i64 (scoreI q k)), .raw (.bool true)]) := by
 refine PW.two ?_
 refine begins [[0, 1], [0, 1], [], [0, 1], [0, 1, 6], [1, 6, 30, 31, 32], [1, 6, 30, 31, 32], [1, 6, 7, 8, 30, 31, 32], [1, 6, 30, 31, 32], [6]] Tryz.func241 rfl (rs := [.tmp 4, .tmp 5]) rfl rfl ?_
 intro wf
 have hle : (q.length : Int) = (k.length : Int) := by omega
 have e1 : decide (¬ (q.length : Int) = (k.length : Int)) = false := decide_eq_false (fun h => h hle)
 repeat (first | rw [ko] | rw [kr] | simp -dsimp -implicitDefEqProofs only [go_sem, sQ1, e1])
 refine wz_intro in_ok ?_
 rintro _ g ⟨rfl, rfl⟩
 rw [inI_mk (by omega) (by omega)]
 repeat (first | rw [ko] | rw [kr] | simp -dsimp -implicitDefEqProofs only [go_sem, sQ1])
 refine pw_intro (allIn_ok (by omega)) ?_
 rintro _ n1 hn1 rfl
 rw [allI_absB hq (by omega)]
 repeat (first | rw [ko] | rw [kr] | simp -dsimp -implicitDefEqProofs only [go_sem, sQ1])
 refine pw_intro (allIn_ok (by omega)) ?_
 rintro _ n2 hn2 rfl
 rw [allI_absB hk (by omega)]
 repeat (first | rw [ko] | rw [kr] | simp -dsimp -implicitDefEqProofs only [go_sem, sQ1])
 refine lz_keep [1, 30, 31] (fun m e h' => ∃ (i : Nat), g.le h' ∧ look e 32 .mk = .raw (.int .i64 (i : Nat)) ∧ look e 6 .mk = .raw (.int .i64 (sumF (fun i => q.getD i default * k.getD i default) i)) ∧ m + i = q.length) q.length ?_ ?_
 ·exact ⟨0, by first | exact le_up (le_up (H2.le.refl _) hn1) hn2 | exact le_up (H2.le.refl _) (Nat.le_trans hn1 hn2), zsm, by simp -dsimp -implicitDefEqProofs only [go_sem, sQ1] <;> rfl, by omega⟩
 rintro m e h' hks ⟨i, hle1, ei, es, hm⟩
 simp -dsimp -implicitDefEqProofs only [go_sem, sQ1] at hks
 by_cases q1 : (i : Int) < (q.length : Int)
 ·have q2 : i < q.length := by omega
  have q3 : i < k.length := by omega
  have w1 := zwrs i (by omega)
  have a := dot_at hq hk i
  have b := dot_to hq hk (n := i + 1) (by omega)
  have w3 := wrapS (x := q.getD i default * k.getD i default) (by omega)
  have w2 : IntKind.i64.wrap (sumF (fun i => q.getD i default * k.getD i default) i + q.getD i default * k.getD i default) = sumF (fun i => q.getD i default * k.getD i default) (i + 1) := wrapS (x := sumF (fun i => q.getD i default * k.getD i default) (i + 1)) (by omega)
  repeat (first | rw [ko] | rw [kr] | simp -dsimp -implicitDefEqProofs only [go_sem, sQ1, hks, ei, es, q1, q2, q3, w1, w3, w2])
  exact nx_keep (m - 1) (by omega) zsm ⟨i + 1, hle1, zsm, zsm, by omega⟩
 repeat (first | rw [ko] | rw [kr] | simp -dsimp -implicitDefEqProofs only [go_sem, sQ1, hks, ei, es, q1])
 obtain rfl : i = q.length := by omega
 refine wz_intro (floorA_ok (by omega) (by have := dot_to hq hk h8; omega)) ?_
 rintro y _ ⟨hy, rfl⟩
 obtain rfl : y = .raw (.int .i64 (scoreI q k)) := hy
 repeat (first | rw [ko] | rw [kr] | simp -dsimp -implicitDefEqProofs only [go_sem])
 exact ⟨hle1, ⟨_, _, rfl⟩, rfl⟩
theorem scoresA_ok {f f' : Adr} {q : List Int} {ks : List (List Int)} {g : H2} (hq : absB 127 q) (h1 : 1 ≤ q.length) (h8 : q.length ≤ 8) (hk : ∀ k ∈ ks, k.length = q.length ∧ absB 127 k) (hn0 : ks.length ≤ 1000) : TI Tryz.prog W0 227 [.sl f 1 (ints q), .sl f' 1 (rIntSS ks)] g (ks.map (scoreI q)) := by
 refine begins [[0, 1], [0, 1], [0, 1, 6], [0, 6, 12, 13, 14], [0, 6, 12, 13, 14], [0, 6, 8, 12, 13, 14], [0, 6, 9, 10, 12, 13, 14], [], [0, 6, 9, 12, 13, 14], [0, 6, 12, 13, 14], [6]] Tryz.func227 rfl (rs := [.tmp 4, .tmp 5]) rfl rfl ?_
 intro wf
 repeat (first | rw [ko] | rw [kr] | simp -dsimp -implicitDefEqProofs only [go_sem, sQ1, sQ3])
 refine lz_keep [0, 12, 13] (fun m e h' => ∃ (i : Nat) (v : X), g.le h' ∧ hn g .mk ≤ hn h' .mk ∧ look e 14 .mk = .raw (.int .i64 (i : Nat)) ∧ look e 6 .mk = v ∧ m + i = ks.length ∧ OwnI (hn g .mk) h' v ((ks.map (scoreI q)).take i)) ks.length ?_ ?_
 ·exact ⟨0, _, le_push (H2.le.refl _), by simp only [hn_push]; omega, zsm, by simp -dsimp -implicitDefEqProofs only [go_sem, sQ1] <;> rfl, by omega, Own.new (Nat.le_refl _) rfl⟩
 rintro m e h' hks ⟨i, v, hle, nn, ei, ev, hm, ow⟩
 simp -dsimp -implicitDefEqProofs only [go_sem, sQ1] at hks
 have c0 := ownI_cell ow
 by_cases q1 : (i : Int) < (ks.length : Int)
 ·have q2 : i < ks.length := by omega
  have w1 := zwrs i (by omega)
  have hki := hk _ (getD_mem q2)
  have hl2 : ((ks.map (scoreI q)).take i).length ≤ 1048576 := by rw [List.length_take, List.length_map]; omega
  repeat (first | rw [ko] | rw [kr] | simp -dsimp -implicitDefEqProofs only [go_sem, sQ1, hks, ei, ev, q1, q2])
  refine pw_intro (scoreA_ok hq hki.2 h1 h8 hki.1) ?_
  rintro _ n1 hn1 rfl
  repeat (first | rw [ko] | rw [kr] | simp -dsimp -implicitDefEqProofs only [go_sem, sQ1, sQ3])
  refine app1 (P := Tryz.prog) (D := fun _ => none) Go.Ai.ty_el25 Go.Ai.ty_zr3 Go.Ai.ty_cl25 (by omega) (Own.keep ow (le_up (H2.le.refl _) hn1)) (le_up hle hn1) (by omega) (by rw [hn_up]; omega) hl2 ?_
  intro v4 g4 ow4 le4 nn4 on4
  repeat (first | rw [ko] | rw [kr] | simp -dsimp -implicitDefEqProofs only [go_sem, sQ1, w1])
  exact nx_keep (m - 1) (by omega) zsm ⟨i + 1, v4, le4, nn4, zsm, zsm, by omega, (mapL_snoc q2).symm ▸ ow4⟩
 ·repeat (first | rw [ko] | rw [kr] | simp -dsimp -implicitDefEqProofs only [go_sem, sQ1, hks, ei, ev, q1, c0])
  have hi : i = (ks.map (scoreI q)).length := by rw [List.length_map]; omega
  rw [hi, List.take_length] at ow
  exact ⟨hle, v, rfl, ow⟩
theorem sharesA_ok {f : Adr} {l : List Int} {g : H2} (h1 : 1 ≤ l.length) (h32 : l.length ≤ 32) (hl : absB 100000 l) : TI Tryz.prog W0 242 [.sl f 1 (ints l)] g (sharesI l) := by
 refine begins [[0], [0], [], [0], [0, 4], [0, 4, 5], [0, 4, 5, 6], [4, 5, 6, 24, 25, 26], [4, 5, 6, 24, 25, 26], [4, 5, 6, 8, 24, 25, 26], [4, 5, 6, 9, 24, 25, 26], [4, 5, 6, 9, 24, 25, 26], [4, 5, 6, 24, 25, 26], [5, 6], [5, 6, 42, 43, 44], [5, 6, 42, 43, 44], [5, 6, 10, 11, 42, 43, 44], [5, 6, 42, 43, 44], [6]] Tryz.func242 rfl (rs := [.tmp 2, .tmp 3]) rfl rfl ?_
 intro wf
 repeat (first | rw [ko] | rw [kr] | simp -dsimp -implicitDefEqProofs only [go_sem])
 refine wz_intro in_ok ?_
 rintro _ g ⟨rfl, rfl⟩
 rw [inI_mk (by omega) (by omega)]
 repeat (first | rw [ko] | rw [kr] | simp -dsimp -implicitDefEqProofs only [go_sem, sQ1])
 refine pw_intro (allIn_ok (by omega)) ?_
 rintro _ n1 hn1 rfl
 rw [allI_absB hl (by omega)]
 repeat (first | rw [ko] | rw [kr] | simp -dsimp -implicitDefEqProofs only [go_sem, sQ1])
 refine wz_intro (maxA_ok (by omega) (by omega)) ?_
 rintro _ _ ⟨rfl, rfl⟩
 have hmx := maxI_abs hl (by omega)
 repeat (first | rw [ko] | rw [kr] | simp -dsimp -implicitDefEqProofs only [go_sem, sQ1, sQ3])
 refine lz_keep [4, 24, 25] (fun m e h' => ∃ (i : Nat) (v : X), g.le h' ∧ hn g .mk ≤ hn h' .mk ∧ look e 26 .mk = .raw (.int .i64 (i : Nat)) ∧ look e 6 .mk = v ∧ look e 5 .mk = .raw (.int .i64 (sumF (fun i => (expsI l).getD i default) i)) ∧ m + i = l.length ∧ OwnI (hn g .mk) h' v ((expsI l).take i)) l.length ?_ ?_
 ·exact ⟨0, _, le_push (le_up (H2.le.refl _) hn1), by simp only [hn_push, hn_up]; omega, zsm, by simp -dsimp -implicitDefEqProofs only [go_sem, sQ1] <;> rfl, by simp -dsimp -implicitDefEqProofs only [go_sem, sQ1] <;> rfl, by omega, Own.new (by simp only [hn_up]; omega) rfl⟩
 rintro m e h' hks ⟨i, v, hle, nn, ei, ev, es, hm, ow⟩
 simp -dsimp -implicitDefEqProofs only [go_sem, sQ1] at hks
 have c0 := ownI_cell ow
 by_cases q1 : (i : Int) < (l.length : Int)
 ·have q2 : i < l.length := by omega
  have w1 := zwrs i (by omega)
  have hxi := getD_abs (by omega) hl i
  have w3 := wrapS (x := l.getD i default - maxI l) (by omega)
  have b := expsum_to (l := l) (n := i + 1) (by omega)
  have w2 : IntKind.i64.wrap (sumF (fun i => (expsI l).getD i default) i + expN (l.getD i default - maxI l)) = sumF (fun i => (expsI l).getD i default) (i + 1) := by
   rw [← exps_at q2]
   exact wrapS (x := sumF (fun i => (expsI l).getD i default) (i + 1)) (by omega)
  have hl2 : ((expsI l).take i).length ≤ 1048576 := by rw [List.length_take, exps_len]; omega
  repeat (first | rw [ko] | rw [kr] | simp -dsimp -implicitDefEqProofs only [go_sem, sQ1, hks, ei, ev, es, q1, q2, w3])
  refine wz_intro exp1_ok ?_
  rintro _ _ ⟨rfl, rfl⟩
  repeat (first | rw [ko] | rw [kr] | simp -dsimp -implicitDefEqProofs only [go_sem, sQ1, sQ3])
  refine app1 (P := Tryz.prog) (D := fun _ => none) Go.Ai.ty_el25 Go.Ai.ty_zr3 Go.Ai.ty_cl25 (by omega) ow hle (by omega) nn hl2 ?_
  intro v4 g4 ow4 le4 nn4 on4
  have c4 := ownI_cell ow4
  repeat (first | rw [ko] | rw [kr] | simp -dsimp -implicitDefEqProofs only [go_sem, sQ1, w1, w2])
  exact nx_keep (m - 1) (by omega) zsm ⟨i + 1, v4, le4, nn4, zsm, zsm, zsm, by omega, (mapL_snoc (f := fun n => expN (n - maxI l)) q2).symm ▸ ow4⟩
 have hi : i = (expsI l).length := by rw [exps_len]; omega
 rw [hi, List.take_length] at ow
 have hi2 : i = l.length := by omega
 rw [hi2] at es
 obtain ⟨b, rfl, hb1, hb2, hb3⟩ := ownI_inv ow (by rw [exps_len]; omega)
 rw [exps_len] at ev
 repeat (first | rw [ko] | rw [kr] | simp -dsimp -implicitDefEqProofs only [go_sem, sQ1, hks, ei, ev, es, q1])
 have sp := expsum_pos (l := l) (by omega)
 refine lz_keep [5, 6, 42, 43] (fun m e h2 => ∃ (i : Nat), g.le h2 ∧ b < hn h2 .mk ∧ look e 44 .mk = .raw (.int .i64 (i : Nat)) ∧ m + i = l.length ∧ hg h2 b .mk = some ⟨1, (updI (fun e => e * 256 / sumF (fun i => (expsI l).getD i default) l.length) (expsI l) i).map cI⟩) l.length ?_ ?_
 ·exact ⟨0, hle, hb2, zsm, by omega, hb3⟩
 rintro m2 e2 h2 hks2 ⟨i2, hle2, hbn, ei2, hm2, row⟩
 simp -dsimp -implicitDefEqProofs only [go_sem, sQ1] at hks2
 by_cases q1 : (i2 : Int) < (l.length : Int)
 ·have q2 : i2 < l.length := by omega
  have q3 : i2 < (expsI l).length := by rw [exps_len]; exact q2
  have q4 : i2 < (updI (fun e => e * 256 / sumF (fun i => (expsI l).getD i default) l.length) (expsI l) i2).length := by rw [upd_len (by omega)]; exact q3
  have w1 := zwrs i2 (by omega)
  have hgt := getW q4
  rw [upd_at q3] at hgt
  have ein := exps_in q2
  have w3 := wrapS (x := (expsI l).getD i2 default * 256) (by omega)
  have ed : Int.tdiv ((expsI l).getD i2 default * 256) (sumF (fun i => (expsI l).getD i default) l.length) = (expsI l).getD i2 default * 256 / sumF (fun i => (expsI l).getD i default) l.length := Int.tdiv_eq_ediv_of_nonneg (by omega)
  have sh := shares_in ((expsI l).getD i2 default * 256 / sumF (fun i => (expsI l).getD i default) l.length) (by rw [← shares_at q2]; exact getD_mem (by rw [sharesI_len]; exact q2))
  have w4 := wrapS (x := (expsI l).getD i2 default * 256 / sumF (fun i => (expsI l).getD i default) l.length) (by omega)
  have hz : (sumF (fun i => (expsI l).getD i default) l.length == 0) = false := by rw [beq_eq_false_iff_ne]; omega
  have hwr := wrtW (v := (expsI l).getD i2 default * 256 / sumF (fun i => (expsI l).getD i default) l.length) q4
  rw [upd_set (f := fun e => e * 256 / sumF (fun i => (expsI l).getD i default) l.length) q3] at hwr
  have hi3 : (0 : Int) ≤ (i2 : Int) ∧ (i2 : Int) < (l.length : Int) := by omega
  repeat (first | rw [ko] | rw [kr] | simp -dsimp -implicitDefEqProofs only [go_sem, sQ1, hks2, ei2, q1, row, hgt, w1, w3, ed, w4, hz, hwr, hi3, Int.toNat_natCast])
  exact nx_keep (m2 - 1) (by omega) zsm ⟨i2 + 1, le_set hle2 hb1, hbn, zsm, by omega, by simp -dsimp -implicitDefEqProofs only [go_sem, hoo]⟩
 ·repeat (first | rw [ko] | rw [kr] | simp -dsimp -implicitDefEqProofs only [go_sem, sQ1, hks2, ei2, q1])
  have hi3 : i2 = (expsI l).length := by rw [exps_len]; omega
  rw [hi3, upd_all] at row
  exact ⟨hle2, _, rfl, ownI_mk (by rw [sharesI_len]) hb1 hbn row⟩
def rowsB (n : Nat) (vs : List (List Int)) : Prop := ∀ v ∈ vs, v.length = n ∧ absB 127 v
theorem mixC_ok {f : Adr} {r : List Int} {b n : Nat} {h : H2} (hb : hg h b .mk = some ⟨1, [.raw (.int .i64 (n : Nat))]⟩) (hl : r.length ≤ 1048576) : PW Tryz.prog W0 246 [.sl f 1 (ints r), .raw (.pointer (some ⟨b, 0, none⟩))] h (fun y => y = .raw (.bool (!(decide ((r.length : Int) = (n : Nat)) && allI r (-127) 127)))) := by
 refine PW.scalar ?_
 refine begins [[0, 1], [0, 1]] Tryz.func246 rfl (rs := [.tmp 3]) rfl rfl ?_
 intro wf
 by_cases h1 : (r.length : Int) = (n : Nat)
 ·have d1 : decide ((r.length : Int) = (n : Nat)) = true := decide_eq_true h1
  have e1 : decide (¬ (r.length : Int) = (n : Nat)) = false := decide_eq_false (fun h => h h1)
  repeat (first | rw [ko] | rw [kr] | simp -dsimp -implicitDefEqProofs only [go_sem, sQ1, hb, e1])
  refine pw_intro (allIn_ok (by omega)) ?_
  rintro _ n1 hn1 rfl
  repeat (first | rw [ko] | rw [kr] | simp -dsimp -implicitDefEqProofs only [go_sem])
  exact ⟨le_up (H2.le.refl _) hn1, ⟨_, rfl⟩, by rw [d1]; rfl⟩
 ·have d1 : decide ((r.length : Int) = (n : Nat)) = false := decide_eq_false h1
  have e1 : decide (¬ (r.length : Int) = (n : Nat)) = true := decide_eq_true h1
  repeat (first | rw [ko] | rw [kr] | simp -dsimp -implicitDefEqProofs only [go_sem, hb, e1])
  exact ⟨H2.le.refl _, ⟨_, rfl⟩, by rw [d1]; rfl⟩
theorem rows_small {n : Nat} {vs : List (List Int)} (h : rowsB n vs) (i : Nat) (hi : i < vs.length) : (vs.getD i default).length = n ∧ absB 127 (vs.getD i default) := h _ (getD_mem hi)
theorem mixA_ok {f f' : Adr} {sh : List Int} {vs : List (List Int)} {n : Nat} {g : H2} (hl : vs.length = sh.length) (h1 : 1 ≤ sh.length) (h32 : sh.length ≤ 32) (hs : allI sh 0 256 = true) (hn1 : 1 ≤ n) (hn8 : n ≤ 8) (hv : rowsB n vs) : TI Tryz.prog W0 243 [.sl f 1 (ints sh), .sl f' 1 (rIntSS vs)] g (mixI sh vs n) := by
 refine begins [[0, 1], [0, 1], [], [0, 1], [0, 1, 6], [], [0, 1, 6], [0, 1, 6, 7], [0, 1, 7, 41, 42], [0, 1, 7, 41, 42], [0, 1, 7, 8, 41, 42], [0, 1, 7, 8, 9, 41, 42], [0, 1, 7, 8, 9, 41, 42, 45, 46, 47], [0, 1, 7, 8, 9, 41, 42, 45, 46, 47], [0, 1, 7, 8, 9, 10, 11, 41, 42, 45, 46, 47], [0, 1, 7, 8, 9, 41, 42, 45, 46, 47], [0, 1, 7, 9, 41, 42], [0, 1, 7, 41, 42], [7]] Tryz.func243 rfl (rs := [.tmp 4, .tmp 5]) rfl rfl ?_
 intro wf
 have hsa := allI_abs hs (n := 256) (by omega) (by omega)
 have hle : (sh.length : Int) = (vs.length : Int) := by omega
 have e1 : decide (¬ (sh.length : Int) = (vs.length : Int)) = false := decide_eq_false (fun h => h hle)
 have v0 := rows_small hv 0 (by omega)
 have q0 : 0 < vs.length := by omega
 have i0 : (0 : Int) ≤ 0 := by omega
 repeat (first | rw [ko] | rw [kr] | simp -dsimp -implicitDefEqProofs only [go_sem, sQ1, e1])
 refine wz_intro in_ok ?_
 rintro _ g ⟨rfl, rfl⟩
 rw [inI_mk (by omega) (by omega)]
 repeat (first | rw [ko] | rw [kr] | simp -dsimp -implicitDefEqProofs only [go_sem, sQ1])
 refine pw_intro (allIn_ok (by omega)) ?_
 rintro _ n1 hn1 rfl
 rw [hs]
 repeat (first | rw [ko] | rw [kr] | simp -dsimp -implicitDefEqProofs only [go_sem, sQ1, q0, i0, Int.toNat_zero, v0.1, hoo])
 refine wz_intro in_ok ?_
 rintro _ _ ⟨rfl, rfl⟩
 rw [inI_mk (by omega) (by omega)]
 repeat (first | rw [ko] | rw [kr] | simp -dsimp -implicitDefEqProofs only [go_sem, sQ1, hoo])
 refine pw_intro (containsR_ok (p := fun r => !(decide ((r.length : Int) = (n : Nat)) && allI r (-127) 127)) (by omega) fun i hi f2 h2 le2 => mixC_ok ((le2.2 n1 (by simp only [hn_push, hn_set, hn_up]; omega)).trans (by simp -dsimp -implicitDefEqProofs only [go_sem, hoo])) (by have := rows_small hv i hi; omega)) ?_
 rintro _ n2 hn2 rfl
 have hany : (vs.any fun r => !(decide ((r.length : Int) = (n : Nat)) && allI r (-127) 127)) = false := by
  rw [List.any_eq_false]
  intro r hr
  have := hv r hr
  rw [decide_eq_true (by omega), allI_absB this.2 (by omega)]
  simp
 rw [hany]
 simp only [hn_push, hn_set, hn_up] at hn2
 have hne : (n1 == n2) = false := zne
 repeat (first | rw [ko] | rw [kr] | simp -dsimp -implicitDefEqProofs only [go_sem, sQ1, sQ3, hoo, hne])
 refine lz_keep [0, 1, 41] (fun m e h' => ∃ (k : Nat) (v : X), g.le h' ∧ n2 ≤ hn h' .mk ∧ look e 42 .mk = .raw (.int .i64 (k : Nat)) ∧ look e 7 .mk = v ∧ m + k = n ∧ OwnI n2 h' v ((mixI sh vs n).take k)) n ?_ ?_
 ·exact ⟨0, _, le_push (le_up (le_set (le_push (le_up (H2.le.refl _) hn1)) hn1) (by simp only [hn_push, hn_set, hn_up]; omega)), by simp only [hn_push, hn_up]; omega, zsm, by simp -dsimp -implicitDefEqProofs only [go_sem, sQ1] <;> rfl, by omega, Own.new (by simp only [hn_up]; omega) rfl⟩
 rintro m e h' hks ⟨k, v, hle, nn, ek, ev, hm, ow⟩
 simp -dsimp -implicitDefEqProofs only [go_sem, sQ1] at hks
 have c0 := ownI_cell ow
 by_cases q1 : (k : Int) < (n : Int)
 rotate_left
 ·repeat (first | rw [ko] | rw [kr] | simp -dsimp -implicitDefEqProofs only [go_sem, sQ1, hks, ek, ev, q1, c0])
  have hi : k = (mixI sh vs n).length := by rw [mixI_len]; omega
  rw [hi, List.take_length] at ow
  exact ⟨hle, v, rfl, ow.wide (by omega)⟩
 have q2 : k < n := by omega
 repeat (first | rw [ko] | rw [kr] | simp -dsimp -implicitDefEqProofs only [go_sem, sQ1, hks, ek, ev, q1])
 refine lz_keep [0, 1, 7, 8, 41, 42, 45, 46] (fun m2 e2 h2 => ∃ (i : Nat), h2 = h' ∧ look e2 47 .mk = .raw (.int .i64 (i : Nat)) ∧ look e2 9 .mk = .raw (.int .i64 (sumF (fun i => sh.getD i default * (vs.getD i default).getD k default) i)) ∧ m2 + i = sh.length) sh.length ?_ ?_
 ·exact ⟨0, rfl, zsm, by simp -dsimp -implicitDefEqProofs only [go_sem, sQ1] <;> rfl, by omega⟩
 rintro m2 e2 h2 hks2 ⟨i, rfl, ei, es, hm2⟩
 simp -dsimp -implicitDefEqProofs only [go_sem, sQ1] at hks2
 by_cases p1 : (i : Int) < (sh.length : Int)
 ·have p2 : i < sh.length := by omega
  have p3 : i < vs.length := by omega
  have vi := rows_small hv i p3
  have p4 : k < (vs.getD i default).length := by omega
  have w1 := zwrs i (by omega)
  have a := mix_at hsa vi.2 i k
  have b := mix_to hsa (fun v hv2 => (hv v hv2).2) k (i + 1)
  have w3 := wrapS (x := sh.getD i default * (vs.getD i default).getD k default) (by omega)
  have w2 : IntKind.i64.wrap (sumF (fun i => sh.getD i default * (vs.getD i default).getD k default) i + sh.getD i default * (vs.getD i default).getD k default) = sumF (fun i => sh.getD i default * (vs.getD i default).getD k default) (i + 1) := wrapS (x := sumF (fun i => sh.getD i default * (vs.getD i default).getD k default) (i + 1)) (by omega)
  repeat (first | rw [ko] | rw [kr] | simp -dsimp -implicitDefEqProofs only [go_sem, sQ1, hks2, ei, es, p1, p2, p3, p4, w1, w3, w2])
  exact nx_keep (m2 - 1) (by omega) zsm ⟨i + 1, rfl, zsm, zsm, by omega⟩
 repeat (first | rw [ko] | rw [kr] | simp -dsimp -implicitDefEqProofs only [go_sem, sQ1, hks2, ei, es, p1])
 obtain rfl : i = sh.length := by omega
 have w1 := zwrs k (by omega)
 have hl2 : ((mixI sh vs n).take k).length ≤ 1048576 := by rw [List.length_take, mixI_len]; omega
 refine wz_intro (floorA_ok (by omega) (by have := mix_to hsa (fun v hv2 => (hv v hv2).2) k sh.length; omega)) ?_
 rintro _ _ ⟨rfl, rfl⟩
 repeat (first | rw [ko] | rw [kr] | simp -dsimp -implicitDefEqProofs only [go_sem])
 refine wz_intro (clamp1_ok (by omega) (by omega)) ?_
 rintro _ _ ⟨rfl, rfl⟩
 repeat (first | rw [ko] | rw [kr] | simp -dsimp -implicitDefEqProofs only [go_sem, sQ3])
 refine app1 (P := Tryz.prog) (D := fun _ => none) Go.Ai.ty_el25 Go.Ai.ty_zr3 Go.Ai.ty_cl25 (by omega) ow hle (by omega) nn hl2 ?_
 intro v4 g4 ow4 le4 nn4 on4
 repeat (first | rw [ko] | rw [kr] | simp -dsimp -implicitDefEqProofs only [go_sem, sQ1, w1])
 exact nx_keep (m - 1) (by omega) zsm ⟨k + 1, v4, le4, nn4, zsm, zsm, by omega, (mapR_snoc q2).symm ▸ ow4⟩
theorem attendA_ok {f f2 f3 : Adr} {q : List Int} {ks vs : List (List Int)} {g : H2} (hq : absB 127 q) (h1 : 1 ≤ q.length) (h8 : q.length ≤ 8) (hk : rowsB q.length ks) (hv : rowsB q.length vs) (hl : vs.length = ks.length) (hk1 : 1 ≤ ks.length) (hk32 : ks.length ≤ 32) : TI Tryz.prog W0 228 [.sl f 1 (ints q), .sl f2 1 (rIntSS ks), .sl f3 1 (rIntSS vs)] g (attendI q ks vs) := by
 refine begins [[0, 1, 2], [0, 1, 2], [2, 8, 9], [], [2, 8], [2, 9, 10], [], [2, 10]] Tryz.func228 rfl (rs := [.tmp 6, .tmp 7]) rfl rfl ?_
 intro wf
 have sl : (ks.map (scoreI q)).length = ks.length := List.length_map _
 have sa : absB 100000 (ks.map (scoreI q)) := fun y hy => by
  obtain ⟨k, hk0, rfl⟩ := List.mem_map.1 hy
  have := score_abs hq (hk k hk0).2 h8
  omega
 repeat (first | rw [ko] | rw [kr] | simp -dsimp -implicitDefEqProofs only [go_sem, sQ1])
 refine pw_intro (TI.pw (scoresA_ok hq h1 h8 hk (by omega))) ?_
 rintro _ n1 hn1 ⟨⟨f4, rfl⟩, _⟩
 repeat (first | rw [ko] | rw [kr] | simp -dsimp -implicitDefEqProofs only [go_sem, sQ1])
 refine pw_intro (TI.pw (sharesA_ok (by omega) (by omega) sa)) ?_
 rintro _ n2 hn2 ⟨⟨f5, rfl⟩, _⟩
 repeat (first | rw [ko] | rw [kr] | simp -dsimp -implicitDefEqProofs only [go_sem, sQ1])
 refine wz_intro (mixA_ok (n := q.length) (by rw [sharesI_len]; omega) (by rw [sharesI_len]; omega) (by rw [sharesI_len]; omega) shares_all h1 h8 hv) ?_
 rintro _ g3 ⟨l3, v, rfl, ow⟩
 have c0 := ownI_cell ow
 have e : hn g .mk ≤ n2 := Nat.le_trans hn1 hn2
 repeat (first | rw [ko] | rw [kr] | simp -dsimp -implicitDefEqProofs only [go_sem, sQ1, c0])
 exact ⟨H2.le.trans (by first | exact le_up (le_up (H2.le.refl _) hn1) hn2 | exact le_up (H2.le.refl _) e) l3, v, rfl, ow.wide e⟩
end Go.Bi
end
section
namespace Go.Bi
open Go.Ai (Hold Heap WC)
variable {P : Program} {W0 : World} {g : H2} {K : KT}
def Only1 (g g' : H2) (b : Nat) : Prop := hn g .mk ≤ hn g' .mk ∧ ∀ c, c < hn g .mk → c ≠ b → hg g' c .mk = hg g c .mk
def PB (P : Program) (W0 : World) (f : FuncId) (xs : List X) (g : H2) (b : Nat) (Q : OB → X → Prop) : Prop :=
 WC2 P W0 f xs g fun y g' => ∃ k, g' = (g.set b k).up (hn g' .mk) ∧ hn g .mk ≤ hn g' .mk ∧ Q k y
theorem get_set {k : OB} {b c : Nat} : (g.set b k).get c = if c = b then some k else g.get c := rfl
theorem PB.of {q : Nat → Prop} {f : FuncId} {xs : List X} {b : Nat} {Q : OB → X → Prop} (hb : b < hn g .mk)
    (c : WC2 P W0 f xs g fun x g' => Only1 g g' b ∧ ∃ y k, hg g' b .mk = some k ∧ (∀ x ∈ k.cs, ∃ v, x = .raw v) ∧ Fz (fun c => hn g .mk ≤ c) q g' x y ∧ Q k y) :
    PB P W0 f xs g b fun k y => Q k y ∧ AllB (fun c => hn g .mk ≤ c ∨ q c) y := by
  intro h s o
  refine (c h s o).mono ?_
  rintro v h' ⟨x, g', rfl, s', x', o', le, y, k, hk, hr, fz, hq⟩
  have hk : g'.get b = some k := hk
  have hx : Ext g h ((g.set b k).up (hn g' .mk)) h' := ⟨x'.n, x'.keep, fun c hc h0 => by
    show (g.set b k).get c = none
    rw [get_set]
    split
    · rename_i e; subst e; rw [x'.non _ hc h0] at hk; cases hk
    · exact h0⟩
  refine ⟨y, (g.set b k).up (hn g' .mk), fz.er.symm, ⟨s'.n, fun c k' hk' => ?_⟩, hx, ?_, k, rfl, le.1, hq, fz.all (fun _ h => .inl h) (fun _ h => .inr h)⟩
  · have hk' : (g.set b k).get c = some k' := hk'
    rw [get_set] at hk'
    by_cases e : c = b
    · rw [if_pos e] at hk'
      obtain rfl := Option.some.inj hk'
      obtain ⟨r1, r2, r3⟩ := s'.row _ _ hk
      exact ⟨by rw [e]; exact r1, by rw [e]; exact r2, fun x hx2 => by obtain ⟨v, rfl⟩ := hr x hx2; exact .raw⟩
    · rw [if_neg e] at hk'
      obtain ⟨r1, r2, r3⟩ := s.row c k' hk'
      have hc : c < hn g .mk := by unfold hn; rw [s.n]; exact r1
      have hk2 : g'.get c = some k' := (le.2 c hc e).trans hk'
      obtain ⟨q1, q2, q3⟩ := s'.row c k' hk2
      exact ⟨q1, q2, fun x hx2 => (r3 x hx2).mono hx⟩
  · have h0 : ∀ c, hn g .mk ≤ c → ((g.set b k).up (hn g' .mk)).get c = none := fun c hc => by
      show (g.set b k).get c = none
      rw [get_set, if_neg (by omega)]
      exact s.wf c hc
    refine fz.ok (g1 := (g.set b k).up (hn g' .mk)) s' (fun c _ hc => ?_) (fun c hc => h0 c hc) o'
    by_cases hlt : c < hn g .mk
    · show (g.set b k).get c = none
      rw [get_set]
      split
      · rename_i e; subst e; rw [hc] at hk; cases hk
      · rename_i e; exact (le.2 c hlt e).symm.trans hc
    · exact h0 c (by omega)
def H2.one (g : H2) (b : Nat) : H2 := ⟨g.n, fun c => if c = b then g.get b else none⟩
theorem hg_one {b : Nat} : hg (g.one b) b .mk = hg g b .mk := by show (if b = b then g.get b else none) = g.get b; rw [if_pos rfl]
abbrev Lent1 (g : H2) (b : Nat) : X → X → Prop := Fz (fun c => c ≠ b) (fun _ => True) g
inductive Lents1 (g : H2) (b : Nat) : List X → List X → Prop
 | nil : Lents1 g b [] []
 | cons {x y : X} {xs ys : List X} : Lent1 g b x y → Lents1 g b xs ys → Lents1 g b (x :: xs) (y :: ys)
theorem Lents1.er {b : Nat} : ∀ {xs ys : List X}, Lents1 g b xs ys → ys.map Bi.er = xs.map Bi.er
 | _, _, .nil => rfl
 | _, _, .cons a b => by simp only [List.map_cons, Fz.er a, b.er]
theorem get_one {b c : Nat} : (g.one b).get c = if c = b then g.get b else none := rfl
theorem Lents1.ok {b : Nat} {h : Heap} (s : S g h) : ∀ {xs ys : List X}, Lents1 g b xs ys → (∀ x ∈ xs, Ok h g x) → ∀ y ∈ ys, Ok h (g.one b) y
 | _, _, .nil, _, y, hy => by cases hy
 | _, _, .cons a r, o, y, hy => by
  rcases List.mem_cons.1 hy with rfl | hy
  ·exact a.ok s (fun c _ h0 => by rw [get_one]; split <;> simp_all) (fun c hc => by rw [get_one, if_neg hc]) (o _ (by simp))
  ·exact r.ok s (fun x hx => o x (by simp [hx])) y hy
theorem PB.lend {f : FuncId} {xs ys : List X} {b : Nat} {k0 : OB} {Q : OB → X → Prop} (hl : Lents1 g b xs ys) (h0 : hg g b .mk = some k0) (hr : ∀ x ∈ k0.cs, ∃ v, x = .raw v) (c : PB P W0 f ys (g.one b) b Q) (hq : ∀ k y, Q k y → AllB (fun c => hn g .mk ≤ c) y ∧ ∀ x ∈ k.cs, ∃ v, x = .raw v) : PB P W0 f xs g b Q := by
 intro h s o
 have h0 : g.get b = some k0 := h0
 have s1 : S (g.one b) h := ⟨s.n, fun c k hk => by
  rw [get_one] at hk
  split at hk
  ·rename_i e
   subst e
   obtain ⟨r1, r2, r3⟩ := s.row _ _ hk
   rw [h0] at hk
   cases hk
   exact ⟨r1, r2, fun x hx => by obtain ⟨v, rfl⟩ := hr x hx; exact .raw⟩
  ·cases hk⟩
 rw [← hl.er]
 refine (c h s1 (hl.ok s o)).mono ?_
 rintro v h' ⟨y, g', rfl, s', x', o', k, h1, h2, h3⟩
 obtain ⟨n', rfl⟩ : ∃ n, g' = ((g.one b).set b k).up n := ⟨_, h1⟩
 have hbn : b < h.n := (s.row _ _ h0).1
 have g0 : ∀ c, (((g.one b).set b k).up n').get c = if c = b then some k else none := fun c => by
  show ((g.one b).set b k).get c = _
  rw [get_set]
  split
  ·rfl
  ·rename_i e; rw [get_one, if_neg e]
 have hx : Ext g h ((g.set b k).up n') h' := ⟨x'.n, fun c hc hn0 => x'.keep c hc (by rw [get_one]; split <;> simp_all), fun c hc hn0 => by
  show (g.set b k).get c = none
  rw [get_set]
  split
  ·rename_i e; subst e; rw [hn0] at h0; cases h0
  ·exact hn0⟩
 refine ⟨y, (g.set b k).up n', rfl, ⟨s'.n, fun d k' hk' => ?_⟩, hx, o'.weaken (hq k y h3).1 fun c hc _ => ?_, k, rfl, h2, h3⟩
 ·have hk' : (g.set b k).get d = some k' := hk'
  rw [get_set] at hk'
  by_cases e : d = b
  ·have r := s'.row d k' (by rw [g0, if_pos e]; rw [if_pos e] at hk'; exact hk')
   rw [if_pos e] at hk'
   obtain rfl := Option.some.inj hk'
   exact ⟨r.1, r.2.1, fun x hx2 => by obtain ⟨v, rfl⟩ := (hq k y h3).2 x hx2; exact .raw⟩
  ·rw [if_neg e] at hk'
   obtain ⟨r1, r2, r3⟩ := s.row d k' hk'
   exact ⟨Nat.lt_of_lt_of_le r1 x'.n, by rw [x'.keep d r1 (by rw [get_one, if_neg e])]; exact r2, fun x hx2 => (r3 x hx2).mono hx⟩
 ·show (g.set b k).get c = none
  have : hn g .mk = h.n := s.n
  rw [get_set, if_neg (by omega)]
  exact s.wf c hc
end Go.Bi
end
section
namespace Go.Bi
open Go.Ai (Hold Heap WC)
variable {P : Program} {W0 : World} {g : H2} {K : KT} {p : Option Nat}
def metV : Option Nat → Value
 | none => .pointer none
 | some b => .pointer (some ⟨b, 0, none⟩)
def metO (r s : Int) : OB := ⟨2, [.raw (.int .i64 r), .raw (.int .i64 s)]⟩
def gM (g : H2) (p : Option Nat) (r s : Int) : H2 := match p with
 | none => g
 | some b => g.set b (metO r s)
def Mt (p : Option Nat) (g : H2) (r s : Int) : Prop := ∀ b, p = some b → b < hn g .mk ∧ hg g b .mk = some (metO r s)
def OnM (p : Option Nat) (g g' : H2) : Prop := hn g .mk ≤ hn g' .mk ∧ ∀ c, c < hn g .mk → p ≠ some c → hg g' c .mk = hg g c .mk
theorem hn_gM {r s : Int} : hn (gM g p r s) .mk = hn g .mk := by cases p <;> rfl
theorem hg_gM {r s : Int} {c : Nat} (h : (p == some c) = false) : hg (gM g p r s) c .mk = hg g c .mk := by
 cases p with
 | none => rfl
 | some b => show hg (g.set b _) c .mk = _; rw [hg_set, show (c == b) = false by simp at h ⊢; omega]; rfl
theorem Mt.none {r s : Int} : Mt none g r s := fun b h => by cases h
theorem Mt.ne {r s : Int} {c : Nat} (m : Mt p g r s) (hc : hn g .mk ≤ c) : (p == some c) = false := by
 cases p with
 | none => rfl
 | some b => have := (m b rfl).1; simp; omega
theorem Mt.le {g' : H2} {r s : Int} (m : Mt p g r s) (l : g.le g') : Mt p g' r s := fun b h => ⟨Nat.lt_of_lt_of_le (m b h).1 l.1, (l.2 b (m b h).1).trans (m b h).2⟩
theorem Mt.set {r s r' s' : Int} (m : Mt p g r s) : Mt p (gM g p r' s') r' s' := fun b h => by
 subst h
 exact ⟨(m b rfl).1, by show hg (g.set b _) b .mk = _; rw [hg_set, show (b == b) = true by simp]; rfl⟩
theorem Mt.up {r s : Int} {n : Nat} (m : Mt p g r s) (h : hn g .mk ≤ n) : Mt p (g.up n) r s := m.le (le_up (H2.le.refl _) h)
theorem Mt.push {r s : Int} {k : OB} (m : Mt p g r s) : Mt p (g.push k) r s := m.le (le_push (H2.le.refl _))
theorem Mt.put {r s : Int} {k : OB} {c : Nat} (m : Mt p g r s) (h : (p == some c) = false) : Mt p (g.set c k) r s := fun b e => ⟨(m b e).1, by
 subst e
 rw [hg_set, show (b == c) = false by simp at h ⊢; omega]
 exact (m b rfl).2⟩
theorem OnM.refl : OnM p g g := ⟨Nat.le_refl _, fun _ _ _ => rfl⟩
theorem OnM.le {g0 g1 g2 : H2} (o : OnM p g0 g1) (l : g1.le g2) : OnM p g0 g2 := ⟨Nat.le_trans o.1 l.1, fun c h1 h2 => (l.2 c (Nat.lt_of_lt_of_le h1 o.1)).trans (o.2 c h1 h2)⟩
theorem OnM.of {g' : H2} (l : g.le g') : OnM p g g' := ⟨l.1, fun c h1 _ => l.2 c h1⟩
theorem OnM.trans {g0 g1 g2 : H2} (o : OnM p g0 g1) (o' : OnM p g1 g2) : OnM p g0 g2 := ⟨Nat.le_trans o.1 o'.1, fun c h1 h2 => (o'.2 c (Nat.lt_of_lt_of_le h1 o.1) h2).trans (o.2 c h1 h2)⟩
theorem OnM.up {g' : H2} {n : Nat} (o : OnM p g g') (h : hn g' .mk ≤ n) : OnM p g (g'.up n) := o.le (le_up (H2.le.refl _) h)
theorem OnM.push {g' : H2} {k : OB} (o : OnM p g g') : OnM p g (g'.push k) := o.le (le_push (H2.le.refl _))
theorem OnM.gM {g' : H2} {r s : Int} (o : OnM p g g') : OnM p g (gM g' p r s) := ⟨by rw [hn_gM]; exact o.1, fun c h1 h2 => by rw [hg_gM (by cases p with | none => rfl | some b => simp at h2 ⊢; omega)]; exact o.2 c h1 h2⟩
theorem OnM.put {g' : H2} {k : OB} {c : Nat} (o : OnM p g g') (h : hn g .mk ≤ c) : OnM p g (g'.set c k) := ⟨o.1, fun d h1 h2 => by rw [hg_set, show (d == c) = false by simp; omega]; exact o.2 d h1 h2⟩
theorem OnM.at {g' : H2} {c : Nat} {k : OB} (o : OnM p g g') (h1 : c < hn g .mk) (h2 : (p == some c) = false) (h : hg g c .mk = some k) : hg g' c .mk = some k :=
 (o.2 c h1 (by cases p with | none => simp | some b => simp at h2 ⊢; omega)).trans h
theorem Own.on {N : Nat} {g' : H2} {v : X} {z n : Nat} {cs : List X} {r s : Int} (ow : Own N g v z n cs) (o : OnM p g g') (m : Mt p g r s) (hN : ∀ b, p = some b → b < N) : Own N g' v z n cs := by
 obtain ⟨h1, h3⟩ := ow
 refine ⟨h1, h3.imp_right ?_⟩
 rintro ⟨b, e1, e2, e3, e4⟩
 exact ⟨b, e1, e2, Nat.lt_of_lt_of_le e3 o.1, by rw [o.2 b e3 (fun e => by have := hN b e; omega)]; exact e4⟩
def PM (P : Program) (W0 : World) (f : FuncId) (xs : List X) (g : H2) (p : Option Nat) (r s : Int) (Q : X → Prop) : Prop :=
 WC2 P W0 f xs g fun y g' => g' = (gM g p r s).up (hn g' .mk) ∧ hn g .mk ≤ hn g' .mk ∧ Q y
theorem PM.mono {f : FuncId} {xs : List X} {r s : Int} {Q Q' : X → Prop} (c : PM P W0 f xs g p r s Q) (hq : ∀ y, Q y → Q' y) : PM P W0 f xs g p r s Q' := WC2.mono c fun y g' ⟨h1, h2, h3⟩ => ⟨h1, h2, hq y h3⟩
theorem pm_intro {f : FuncId} {xs : List X} {r s : Int} {Q : X → Prop} (c : PM P W0 f xs g p r s Q) (hk : ∀ y n, hn g .mk ≤ n → Q y → kz K y ((gM g p r s).up n) .mk) : wz P W0 f xs g K .mk :=
 WC2.mono c fun y g' ⟨h1, h2, h3⟩ => by have := hk y _ h2 h3; rw [← h1] at this; exact this
theorem PM.of {q : Nat → Prop} {f : FuncId} {xs : List X} {r0 s0 r s : Int} {Q : X → Prop} (hb : Mt p g r0 s0)
  (c : WC2 P W0 f xs g fun x g' => OnM p g g' ∧ Mt p g' r s ∧ ∃ y, Fz (fun c => hn g .mk ≤ c) q g' x y ∧ Q y) :
  PM P W0 f xs g p r s fun y => Q y ∧ AllB (fun c => hn g .mk ≤ c ∨ q c) y := by
 cases p with
 | none => exact PW.of (c.mono fun x g' ⟨h1, _, h3⟩ => ⟨⟨h1.1, fun b hb => h1.2 b hb (by simp)⟩, h3⟩)
 | some b =>
  refine WC2.mono (PB.of (q := q) (b := b) (Q := fun k y => k = metO r s ∧ Q y) (hb b rfl).1 (c.mono fun x g' ⟨h1, h2, y, h3, h4⟩ => ⟨⟨h1.1, fun c h5 h6 => h1.2 c h5 (by simp; omega)⟩, y, _, (h2 b rfl).2, ?_, h3, rfl, h4⟩)) ?_
  ·intro x hx
   simp only [metO, List.mem_cons, List.not_mem_nil, or_false] at hx
   rcases hx with rfl | rfl <;> exact ⟨_, rfl⟩
  ·rintro y g' ⟨k, h1, h2, ⟨rfl, h3⟩, h4⟩
   exact ⟨h1, h2, h3, h4⟩
def barM (g : H2) : Option Nat → H2
 | none => g.bare
 | some b => g.one b
theorem hn_barM : hn (barM g p) .mk = hn g .mk := by cases p <;> rfl
theorem Mt.bar {r s : Int} (m : Mt p g r s) : Mt p (barM g p) r s := fun b h => by
 subst h
 exact ⟨(m b rfl).1, by show hg (g.one b) b .mk = _; rw [hg_one]; exact (m b rfl).2⟩
abbrev LentM (g : H2) (p : Option Nat) : X → X → Prop := Fz (fun c => p ≠ some c) (fun _ => True) g
inductive LentsM (g : H2) (p : Option Nat) : List X → List X → Prop
 | nil : LentsM g p [] []
 | cons {x y : X} {xs ys : List X} : LentM g p x y → LentsM g p xs ys → LentsM g p (x :: xs) (y :: ys)
theorem Fz.imp {p q p' q' : Nat → Prop} {g : H2} {x y : X} (z : Fz p q g x y) (h1 : ∀ c, p c → p' c) (h2 : ∀ c, q c → q' c) : Fz p' q' g x y := by
 induction z with
 | raw => exact .raw
 | nil => exact .nil
 | own a b c d e f ih => exact .own a (h1 _ b) c d (fun i hi hi' => ih i hi hi') f
 | sl a => exact .sl (a.imp h2)
 | st a b ih => exact .st a fun i hi hi' => ih i hi hi'
 | tp a b ih => exact .tp a fun i hi hi' => ih i hi hi'
theorem LentsM.none : ∀ {xs ys : List X}, LentsM g none xs ys → Lents g xs ys
 | _, _, .nil => .nil
 | _, _, .cons a b => .cons (a.imp (fun _ _ => trivial) (fun _ _ => trivial)) b.none
theorem LentsM.some {b : Nat} : ∀ {xs ys : List X}, LentsM g (Option.some b) xs ys → Lents1 g b xs ys
 | _, _, .nil => .nil
 | _, _, .cons a r => .cons (a.imp (fun c h e => h (by rw [e])) (fun _ _ => trivial)) r.some
theorem PM.lend {f : FuncId} {xs ys : List X} {r0 s0 r s : Int} {Q : X → Prop} (hl : LentsM g p xs ys) (m : Mt p g r0 s0) (c : PM P W0 f ys (barM g p) p r s Q) (hq : ∀ y, Q y → AllB (fun c => hn g .mk ≤ c) y) : PM P W0 f xs g p r s Q := by
 cases p with
 | none => exact PW.lend hl.none c hq
 | some b =>
  refine WC2.mono (PB.lend (Q := fun k y => k = metO r s ∧ Q y) hl.some (m b rfl).2 ?_ (WC2.mono c fun y g' ⟨h1, h2, h3⟩ => ⟨_, h1, h2, rfl, h3⟩) ?_) ?_
  ·intro x hx
   simp only [metO, List.mem_cons, List.not_mem_nil, or_false] at hx
   rcases hx with rfl | rfl <;> exact ⟨_, rfl⟩
  ·rintro k y ⟨rfl, h⟩
   refine ⟨hq y h, fun x hx => ?_⟩
   simp only [metO, List.mem_cons, List.not_mem_nil, or_false] at hx
   rcases hx with rfl | rfl <;> exact ⟨_, rfl⟩
  ·rintro y g' ⟨k, h1, h2, rfl, h3⟩
   exact ⟨h1, h2, h3⟩
attribute [go_sem] hn_gM hn_barM
end Go.Bi
end
section
set_option maxRecDepth 20000
namespace Go.Bi
open Go.Proofs
open Go.Ai (wrap_i64 Heap)
variable {W0 : World} {P : Program}
set_option maxHeartbeats 4000000
theorem wideB_ok {F : Nat → Adr} {m : LMatrix} {f : Adr} {x : List Int} {g : H2} (hm : matB m = true) (hl : (x.length : Int) = m.width) (hx : absB 127 x) : TI Tryz.prog W0 112 [.st (xMatrix F m), .sl f 1 (ints x)] g (wideI m x) := by
 obtain ⟨m1, m2, m3, m4, m5, m6⟩ := mat_t hm
 refine begins [[0, 1], [1, 2], [1, 2, 6], [6], [1, 2, 6], [1, 2, 6, 7], [1, 2, 6, 7], [1, 2, 6, 7], [6]] Tryz.func112 rfl (rs := [.tmp 4, .tmp 5]) rfl rfl ?_
 intro wf
 have e1 : decide (¬ (x.length : Int) = m.width) = false := decide_eq_false (fun h => h hl)
 have hne : (hn g .mk == hn g .mk + 1) = false := by simp
 repeat (first | rw [ko] | rw [kr] | simp -dsimp -implicitDefEqProofs only [go_sem, sQ1, sQ3, hoo, hne])
 refine pw_intro (specMatrix_ok (F := F) (mat_small hm)) ?_
 rintro _ n1 hn1 rfl
 simp only [hn_push] at hn1
 rw [hm]
 repeat (first | rw [ko] | rw [kr] | simp -dsimp -implicitDefEqProofs only [go_sem, sQ1, hoo, hne, e1])
 refine pw_intro (l05All_ok (by omega)) ?_
 rintro _ n2 hn2 rfl
 simp only [hn_up] at hn2
 rw [allI_absB hx (by omega)]
 repeat (first | rw [ko] | rw [kr] | simp -dsimp -implicitDefEqProofs only [go_sem, sQ1, hoo])
 refine lz_keep [1, 2] (fun mm e h' => ∃ (i : Nat) (v : X), g.le h' ∧ hn g .mk + 1 ≤ hn h' .mk ∧ hg h' (hn g .mk) .mk = some ⟨5, [.raw (.int .i64 m.width), .sl (F 1) 1 (rIntSS m.rows), .sl (F 2) 1 (rIntSS m.scales), .raw (.int .i64 m.mul), .raw (.int .i64 m.shift)]⟩ ∧ look e 7 .mk = .raw (.int .i64 (i : Nat)) ∧ look e 6 .mk = v ∧ mm + i = m.rows.length ∧ OwnI (hn g .mk + 1) h' v ((wideI m x).take i)) m.rows.length ?_ ?_
 ·refine ⟨0, _, ?_, by simp only [hn_up]; omega, by simp -dsimp -implicitDefEqProofs only [go_sem, hoo, hne], zsm, by simp -dsimp -implicitDefEqProofs only [go_sem] <;> rfl, by omega, ?_⟩
  ·exact le_up (le_up (le_push (le_push (H2.le.refl _))) (by simp only [hn_push]; omega)) (by simp only [hn_up]; omega)
  ·exact Own.keep (Own.new (g := g.push _) (by rw [hn_push]; exact Nat.le_refl _) rfl) (le_up (le_up (H2.le.refl _) (by simp only [hn_push]; omega)) (by simp only [hn_up]; omega))
 rintro mm e h' hks ⟨i, v, hle, nn, row, ei, ev, hmm, ow⟩
 simp -dsimp -implicitDefEqProofs only [go_sem, sQ1] at hks
 have c0 := ownI_cell ow
 by_cases q1 : (i : Int) < (m.rows.length : Int)
 ·have q2 : i < m.rows.length := by omega
  have q3 : i < m.scales.length := by omega
  have w1 := zwrs i (by omega)
  repeat (first | rw [ko] | rw [kr] | simp -dsimp -implicitDefEqProofs only [go_sem, sQ1, hks, ei, ev, q1, row])
  refine dq_intro [(0, []), (1, []), (2, []), (3, []), (4, []), (5, []), (6, []), (7, []), (8, []), (9, []), (10, []), (11, []), (12, []), (13, []), (14, []), (15, [])] (by kernel_rfl) ?_
  repeat (first | rw [ko] | rw [kr] | simp -dsimp -implicitDefEqProofs only [go_sem, sQ1, q2, q3, row])
  refine wz_intro (rowSumB_ok (m6 i q2).2 hx (by have := (m6 i q2).1; omega)) ?_
  rintro _ _ ⟨rfl, rfl⟩
  repeat (first | rw [ko] | rw [kr] | simp -dsimp -implicitDefEqProofs only [go_sem, sQ1, sQ3])
  refine app1 (P := Tryz.prog) (D := fun _ => none) Go.Ai.ty_el25 Go.Ai.ty_zr3 Go.Ai.ty_cl25 (by omega) ow hle (by omega) nn (by rw [List.length_take, wideI_len]; omega) ?_
  intro v4 g4 ow4 le4 nn4 on4
  have row4 := (on4 (hn g .mk) (by omega)).trans row
  repeat (first | rw [ko] | rw [kr] | simp -dsimp -implicitDefEqProofs only [go_sem, sQ1, w1])
  exact nx_keep (mm - 1) (by omega) zsm ⟨i + 1, v4, le4, nn4, row4, zsm, zsm, by omega, (mapR_snoc q2).symm ▸ ow4⟩
 ·repeat (first | rw [ko] | rw [kr] | simp -dsimp -implicitDefEqProofs only [go_sem, sQ1, hks, ei, ev, q1, row, c0])
  have hi : i = (wideI m x).length := by rw [wideI_len]; omega
  rw [hi, List.take_length] at ow
  exact ⟨hle, v, rfl, ow.wide (by omega)⟩
theorem applyB_ok {F : Nat → Adr} {m : LMatrix} {f : Adr} {x : List Int} {g : H2} (hm : matB m = true) (hl : (x.length : Int) = m.width) (hx : absB 127 x) : TI Tryz.prog W0 155 [.st (xMatrix F m), .sl f 1 (ints x)] g (applyI m x) := by
 obtain ⟨m1, m2, m3, m4, m5, m6⟩ := mat_t hm
 obtain ⟨sh, hsh⟩ := Int.eq_ofNat_of_zero_le m5.1
 have hwl : (wideI m x).length = m.rows.length := wideI_len
 have hwa := wide_abs hm hx
 refine begins [[0, 1], [1, 2], [2, 6, 7], [2, 6, 7, 8], [2, 6, 7, 8, 9], [2, 6, 7, 8, 9], [2, 6, 7, 8, 9], [7, 8]] Tryz.func155 rfl (rs := [.tmp 4, .tmp 5]) rfl rfl ?_
 intro wf
 repeat (first | rw [ko] | rw [kr] | simp -dsimp -implicitDefEqProofs only [go_sem, sQ1, hoo])
 refine pw_intro (TI.pw (wideB_ok (F := F) hm hl hx)) ?_
 rintro _ n1 hn1 ⟨⟨f2, rfl⟩, _⟩
 simp only [hn_push] at hn1
 have hne : (hn g .mk == n1) = false := zne
 repeat (first | rw [ko] | rw [kr] | simp -dsimp -implicitDefEqProofs only [go_sem, sQ1, sQ3, hoo])
 refine lz_keep [2, 6, 7] (fun mm e h' => ∃ (i : Nat) (v : X), g.le h' ∧ hn g .mk + 1 ≤ hn h' .mk ∧ hg h' (hn g .mk) .mk = some ⟨5, [.raw (.int .i64 m.width), .sl (F 1) 1 (rIntSS m.rows), .sl (F 2) 1 (rIntSS m.scales), .raw (.int .i64 m.mul), .raw (.int .i64 m.shift)]⟩ ∧ look e 9 .mk = .raw (.int .i64 (i : Nat)) ∧ look e 8 .mk = v ∧ mm + i = m.rows.length ∧ OwnI (hn g .mk + 1) h' v ((applyI m x).take i)) m.rows.length ?_ ?_
 ·exact ⟨0, _, le_push (le_up (le_push (H2.le.refl _)) (by rw [hn_push]; exact hn1)), by simp only [hn_push, hn_up]; omega, by simp -dsimp -implicitDefEqProofs only [go_sem, hoo, hne], zsm, by simp -dsimp -implicitDefEqProofs only [go_sem] <;> rfl, by omega, Own.new (by simp only [hn_up]; omega) rfl⟩
 rintro mm e h' hks ⟨i, v, hle, nn, row, ei, ev, hmm, ow⟩
 simp -dsimp -implicitDefEqProofs only [go_sem, sQ1] at hks
 have c0 := ownI_cell ow
 by_cases q1 : (i : Int) < (m.rows.length : Int)
 ·have q2 : i < m.rows.length := by omega
  have q3 : i < (wideI m x).length := by omega
  have w1 := zwrs i (by omega)
  have hxi := getD_abs (by omega) hwa i
  repeat (first | rw [ko] | rw [kr] | simp -dsimp -implicitDefEqProofs only [go_sem, sQ1, hks, ei, ev, q1, hwl])
  refine dq_intro [(0, []), (1, []), (2, []), (3, []), (4, []), (5, []), (6, []), (7, []), (8, []), (9, []), (10, []), (11, []), (12, []), (13, [])] (by kernel_rfl) ?_
  repeat (first | rw [ko] | rw [kr] | simp -dsimp -implicitDefEqProofs only [go_sem, sQ1, q2, row, hsh, hwl])
  refine wz_intro (mulB_ok (by omega) m4 (by omega)) ?_
  rintro _ _ ⟨rfl, rfl⟩
  repeat (first | rw [ko] | rw [kr] | simp -dsimp -implicitDefEqProofs only [go_sem])
  refine wz_intro (clamp2_ok (by omega) (by omega)) ?_
  rintro _ _ ⟨rfl, rfl⟩
  repeat (first | rw [ko] | rw [kr] | simp -dsimp -implicitDefEqProofs only [go_sem, sQ1, sQ3])
  refine app1 (P := Tryz.prog) (D := fun _ => none) Go.Ai.ty_el25 Go.Ai.ty_zr3 Go.Ai.ty_cl25 (by omega) ow hle (by omega) nn (by rw [List.length_take, applyI_len]; omega) ?_
  intro v4 g4 ow4 le4 nn4 on4
  have row4 := (on4 (hn g .mk) (by omega)).trans row
  have e4 : (applyI m x).take (i + 1) = (applyI m x).take i ++ [clp (mulSh ((wideI m x).getD i default) m.mul sh) 127] := by
   have := mapL_snoc (f := fun n => clp (mulSh n m.mul m.shift.toNat) 127) q3
   rw [show m.shift.toNat = sh by omega] at this
   unfold applyI narrowI
   rw [show m.shift.toNat = sh by omega]
   exact this
  repeat (first | rw [ko] | rw [kr] | simp -dsimp -implicitDefEqProofs only [go_sem, sQ1, w1])
  exact nx_keep (mm - 1) (by omega) zsm ⟨i + 1, v4, le4, nn4, row4, zsm, zsm, by omega, e4 ▸ ow4⟩
 ·repeat (first | rw [ko] | rw [kr] | simp -dsimp -implicitDefEqProofs only [go_sem, sQ1, hks, ei, ev, q1, c0, hwl])
  have hi : i = (applyI m x).length := by rw [applyI_len]; omega
  rw [hi, List.take_length] at ow
  exact ⟨hle, v, rfl, ow.wide (by omega)⟩
theorem vecB_ok {f : Adr} {x : List Int} {g : H2} (hx : absB 127 x) (h1 : 1 ≤ x.length) (h8 : x.length ≤ 8) : PW Tryz.prog W0 208 [.sl f 1 (ints x)] g (fun y => y = .raw (.bool true)) := by
 refine PW.scalar ?_
 refine begins [[0], [0]] Tryz.func208 rfl (rs := [.tmp 2]) rfl rfl ?_
 intro wf
 repeat (first | rw [ko] | rw [kr] | simp -dsimp -implicitDefEqProofs only [go_sem])
 refine wz_intro l01In_ok ?_
 rintro _ g ⟨rfl, rfl⟩
 rw [inI_mk (by omega) (by omega)]
 repeat (first | rw [ko] | rw [kr] | simp -dsimp -implicitDefEqProofs only [go_sem, sQ1])
 refine pw_intro (l05All_ok (by omega)) ?_
 rintro _ n1 hn1 rfl
 rw [allI_absB hx (by omega)]
 repeat (first | rw [ko] | rw [kr] | simp -dsimp -implicitDefEqProofs only [go_sem])
 exact ⟨le_up (H2.le.refl _) hn1, ⟨_, rfl⟩, rfl⟩
theorem scoreB_ok {f f' : Adr} {q k : List Int} {g : H2} (hq : absB 127 q) (hk : absB 127 k) (h1 : 1 ≤ q.length) (h8 : q.length ≤ 8) (hl : k.length = q.length) : PW Tryz.prog W0 160 [.sl f 1 (ints q), .sl f' 1 (ints k)] g (fun y => y = .tp [.raw (.int .i64 (scoreI q k)), .raw (.bool true)]) := by
 refine PW.two ?_
 refine begins [[0, 1], [0, 1], [], [0, 1], [0, 1, 6], [0, 1, 6, 7], [0, 1, 6, 7], [0, 1, 6, 7], [6]] Tryz.func160 rfl (rs := [.tmp 4, .tmp 5]) rfl rfl ?_
 intro wf
 have hle : (q.length : Int) = (k.length : Int) := by omega
 have e1 : decide (¬ (q.length : Int) = (k.length : Int)) = false := decide_eq_false (fun h => h hle)
 repeat (first | rw [ko] | rw [kr] | simp -dsimp -implicitDefEqProofs only [go_sem, sQ1])
 refine pw_intro (vecB_ok hq h1 h8) ?_
 rintro _ n1 hn1 rfl
 repeat (first | rw [ko] | rw [kr] | simp -dsimp -implicitDefEqProofs only [go_sem, sQ1])
 refine pw_intro (vecB_ok hk (by omega) (by omega)) ?_
 rintro _ n2 hn2 rfl
 repeat (first | rw [ko] | rw [kr] | simp -dsimp -implicitDefEqProofs only [go_sem, sQ1, e1])
 refine lz_keep [0, 1] (fun m e h' => ∃ (i : Nat), g.le h' ∧ look e 7 .mk = .raw (.int .i64 (i : Nat)) ∧ look e 6 .mk = .raw (.int .i64 (sumF (fun i => q.getD i default * k.getD i default) i)) ∧ m + i = q.length) q.length ?_ ?_
 ·exact ⟨0, by first | exact le_up (le_up (H2.le.refl _) hn1) hn2 | exact le_up (H2.le.refl _) (Nat.le_trans hn1 hn2), zsm, by simp -dsimp -implicitDefEqProofs only [go_sem] <;> rfl, by omega⟩
 rintro m e h' hks ⟨i, hle1, ei, es, hm⟩
 simp -dsimp -implicitDefEqProofs only [go_sem, sQ1] at hks
 by_cases q1 : (i : Int) < (q.length : Int)
 ·have q2 : i < q.length := by omega
  have q3 : i < k.length := by omega
  have w1 := zwrs i (by omega)
  have a := dot_at hq hk i
  have b := dot_to hq hk (n := i + 1) (by omega)
  have w3 := wrapS (x := q.getD i default * k.getD i default) (by omega)
  have w2 : IntKind.i64.wrap (sumF (fun i => q.getD i default * k.getD i default) i + q.getD i default * k.getD i default) = sumF (fun i => q.getD i default * k.getD i default) (i + 1) := wrapS (x := sumF (fun i => q.getD i default * k.getD i default) (i + 1)) (by omega)
  repeat (first | rw [ko] | rw [kr] | simp -dsimp -implicitDefEqProofs only [go_sem, sQ1, hks, ei, es, q1])
  refine dq_intro [(0, []), (1, []), (2, []), (3, []), (4, []), (5, []), (6, []), (7, []), (8, []), (9, []), (10, []), (11, [])] (by kernel_rfl) ?_
  repeat (first | rw [ko] | rw [kr] | simp -dsimp -implicitDefEqProofs only [go_sem, sQ1, q2, q3, w1, w3, w2])
  exact nx_keep (m - 1) (by omega) zsm ⟨i + 1, hle1, zsm, zsm, by omega⟩
 repeat (first | rw [ko] | rw [kr] | simp -dsimp -implicitDefEqProofs only [go_sem, sQ1, hks, ei, es, q1])
 obtain rfl : i = q.length := by omega
 refine wz_intro (floorB_ok (by omega) (by have := dot_to hq hk h8; omega)) ?_
 rintro y _ ⟨hy, rfl⟩
 obtain rfl : y = .raw (.int .i64 (scoreI q k)) := hy
 repeat (first | rw [ko] | rw [kr] | simp -dsimp -implicitDefEqProofs only [go_sem])
 exact ⟨hle1, ⟨_, _, rfl⟩, rfl⟩
theorem sharesB_ok {f : Adr} {l : List Int} {g : H2} (h1 : 1 ≤ l.length) (h32 : l.length ≤ 32) (hl : absB 100000 l) : TI Tryz.prog W0 209 [.sl f 1 (ints l)] g (sharesI l) := by
 refine begins [[0], [0], [0, 4], [4], [0, 4], [0, 4, 5], [0, 4, 5, 6], [0, 4, 5, 6], [0, 4, 5, 6], [0, 4, 6], [0, 4, 5], [0, 4, 5, 7], [0, 4, 5, 7, 8], [0, 4, 5, 7, 8], [0, 4, 5, 7, 8], [0, 4, 5, 7], [0, 4, 5, 7, 9], [0, 4, 5, 7, 9], [0, 4, 5, 7, 9], [4]] Tryz.func209 rfl (rs := [.tmp 2, .tmp 3]) rfl rfl ?_
 intro wf
 have i0 : (0 : Int) ≤ 0 := by omega
 have h0 : 0 < l.length := by omega
 repeat (first | rw [ko] | rw [kr] | simp -dsimp -implicitDefEqProofs only [go_sem, sQ1, sQ3])
 refine wz_intro l01In_ok ?_
 rintro _ _ ⟨rfl, rfl⟩
 rw [inI_mk (by omega) (by omega)]
 repeat (first | rw [ko] | rw [kr] | simp -dsimp -implicitDefEqProofs only [go_sem, sQ1])
 refine pw_intro (l05All_ok (by omega)) ?_
 rintro _ n1 hn1 rfl
 simp only [hn_push] at hn1
 rw [allI_absB hl (by omega)]
 repeat (first | rw [ko] | rw [kr] | simp -dsimp -implicitDefEqProofs only [go_sem, sQ1, h0, i0, Int.toNat_zero])
 refine lz_keep [0, 4] (fun m e h' => ∃ (i : Nat), h' = (g.push ⟨1, []⟩).up n1 ∧ look e 6 .mk = .raw (.int .i64 (i : Nat)) ∧ look e 5 .mk = .raw (.int .i64 ((l.take i).foldl max (l.getD 0 default))) ∧ m + i = l.length) l.length ?_ ?_
 ·exact ⟨0, rfl, zsm, by simp -dsimp -implicitDefEqProofs only [go_sem] <;> rfl, by omega⟩
 rintro m e h' hks ⟨i, rfl, ei, es, hm⟩
 simp -dsimp -implicitDefEqProofs only [go_sem, sQ1] at hks
 by_cases q1 : (i : Int) < (l.length : Int)
 ·have q2 : i < l.length := by omega
  have w1 := zwrs i (by omega)
  have em := max_succ (a := l.getD 0 default) q2
  by_cases q3 : l.getD i default > (l.take i).foldl max (l.getD 0 default)
  ·have e5 : (l.take (i + 1)).foldl max (l.getD 0 default) = l.getD i default := by rw [em]; omega
   repeat (first | rw [ko] | rw [kr] | simp -dsimp -implicitDefEqProofs only [go_sem, sQ1, hks, ei, es, q1, q2, q3, w1])
   exact nx_keep (m - 1) (by omega) zsm ⟨i + 1, rfl, zsm, by rw [e5]; simp -dsimp -implicitDefEqProofs only [go_sem, sQ1], by omega⟩
  ·have e5 : (l.take (i + 1)).foldl max (l.getD 0 default) = (l.take i).foldl max (l.getD 0 default) := by rw [em]; omega
   repeat (first | rw [ko] | rw [kr] | simp -dsimp -implicitDefEqProofs only [go_sem, sQ1, hks, ei, es, q1, q2, q3, w1])
   exact nx_keep (m - 1) (by omega) zsm ⟨i + 1, rfl, zsm, by rw [e5]; simp -dsimp -implicitDefEqProofs only [go_sem, sQ1], by omega⟩
 have hi : i = l.length := by omega
 rw [hi, List.take_length] at es
 have es : look e 5 .mk = .raw (.int .i64 (maxI l)) := es
 have hmx := maxI_abs hl (by omega)
 repeat (first | rw [ko] | rw [kr] | simp -dsimp -implicitDefEqProofs only [go_sem, sQ1, hks, ei, es, q1])
 refine lz_keep [0, 4, 5] (fun m e h' => ∃ (i : Nat), (g.push ⟨1, []⟩).le h' ∧ look e 8 .mk = .raw (.int .i64 (i : Nat)) ∧ look e 7 .mk = .raw (.int .i64 (sumF (fun i => (expsI l).getD i default) i)) ∧ m + i = l.length) l.length ?_ ?_
 ·exact ⟨0, le_up (H2.le.refl _) hn1, zsm, by simp -dsimp -implicitDefEqProofs only [go_sem] <;> rfl, by omega⟩
 rintro m2 e2 h2 hks2 ⟨i, hle2, ei2, es2, hm2⟩
 simp -dsimp -implicitDefEqProofs only [go_sem, sQ1] at hks2
 by_cases q1 : (i : Int) < (l.length : Int)
 ·have q2 : i < l.length := by omega
  have w1 := zwrs i (by omega)
  have hxi := getD_abs (by omega) hl i
  have w3 := wrapS (x := l.getD i default - maxI l) (by omega)
  have b := expsum_to (l := l) (n := i + 1) (by omega)
  have w2 : IntKind.i64.wrap (sumF (fun i => (expsI l).getD i default) i + expN (l.getD i default - maxI l)) = sumF (fun i => (expsI l).getD i default) (i + 1) := by
   rw [← exps_at q2]
   exact wrapS (x := sumF (fun i => (expsI l).getD i default) (i + 1)) (by omega)
  repeat (first | rw [ko] | rw [kr] | simp -dsimp -implicitDefEqProofs only [go_sem, sQ1, hks2, ei2, es2, q1, q2, w3])
  refine wz_intro exp2_ok ?_
  rintro _ _ ⟨rfl, rfl⟩
  repeat (first | rw [ko] | rw [kr] | simp -dsimp -implicitDefEqProofs only [go_sem, sQ1, w1, w2])
  exact nx_keep (m2 - 1) (by omega) zsm ⟨i + 1, hle2, zsm, zsm, by omega⟩
 have hi2 : i = l.length := by omega
 rw [hi2] at es2
 have sp := expsum_pos (l := l) (by omega)
 repeat (first | rw [ko] | rw [kr] | simp -dsimp -implicitDefEqProofs only [go_sem, sQ1, hks2, ei2, es2, q1])
 refine lz_keep [0, 5, 7] (fun m e h' => ∃ (i : Nat) (v : X), g.le h' ∧ hn g .mk ≤ hn h' .mk ∧ look e 9 .mk = .raw (.int .i64 (i : Nat)) ∧ look e 4 .mk = v ∧ m + i = l.length ∧ OwnI (hn g .mk) h' v ((sharesI l).take i)) l.length ?_ ?_
 ·exact ⟨0, _, (le_push (H2.le.refl _)).trans hle2, ((le_push (H2.le.refl _)).trans hle2).1, zsm, by simp -dsimp -implicitDefEqProofs only [go_sem, sQ1] <;> rfl, by omega, Own.keep (Own.new (Nat.le_refl _) rfl) hle2⟩
 rintro m3 e3 h3 hks3 ⟨i, v, hle3, nn3, ei3, ev, hm3, ow⟩
 simp -dsimp -implicitDefEqProofs only [go_sem, sQ1] at hks3
 have c0 := ownI_cell ow
 by_cases q1 : (i : Int) < (l.length : Int)
 ·have q2 : i < l.length := by omega
  have w1 := zwrs i (by omega)
  have hxi := getD_abs (by omega) hl i
  have w3 := wrapS (x := l.getD i default - maxI l) (by omega)
  have ein := exps_in q2
  rw [exps_at q2] at ein
  have w4 := wrapS (x := expN (l.getD i default - maxI l) * 256) (by omega)
  have ed : Int.tdiv (expN (l.getD i default - maxI l) * 256) (sumF (fun i => (expsI l).getD i default) l.length) = (sharesI l).getD i default := by
   rw [shares_at q2, exps_at q2]
   exact Int.tdiv_eq_ediv_of_nonneg (by omega)
  have sh := shares_in ((sharesI l).getD i default) (getD_mem (by rw [sharesI_len]; exact q2))
  have w5 := wrapS (x := (sharesI l).getD i default) (by omega)
  have hz : (sumF (fun i => (expsI l).getD i default) l.length == 0) = false := by rw [beq_eq_false_iff_ne]; omega
  repeat (first | rw [ko] | rw [kr] | simp -dsimp -implicitDefEqProofs only [go_sem, sQ1, hks3, ei3, ev, q1, q2, w3])
  refine wz_intro exp2_ok ?_
  rintro _ _ ⟨rfl, rfl⟩
  repeat (first | rw [ko] | rw [kr] | simp -dsimp -implicitDefEqProofs only [go_sem, sQ1, sQ3, w4, ed, w5, hz])
  refine app1 (P := Tryz.prog) (D := fun _ => none) Go.Ai.ty_el25 Go.Ai.ty_zr3 Go.Ai.ty_cl25 (by omega) ow hle3 (by omega) nn3 (by rw [List.length_take]; omega) ?_
  intro v4 g4 ow4 le4 nn4 on4
  have e4 : (sharesI l).take (i + 1) = (sharesI l).take i ++ [(sharesI l).getD i default] := by
   have q3 : i < (sharesI l).length := by rw [sharesI_len]; exact q2
   rw [List.take_succ_eq_append_getElem q3, List.getD_eq_getElem?_getD, List.getElem?_eq_getElem q3]
   rfl
  repeat (first | rw [ko] | rw [kr] | simp -dsimp -implicitDefEqProofs only [go_sem, sQ1, w1])
  exact nx_keep (m3 - 1) (by omega) zsm ⟨i + 1, v4, le4, nn4, zsm, zsm, by omega, e4 ▸ ow4⟩
 ·repeat (first | rw [ko] | rw [kr] | simp -dsimp -implicitDefEqProofs only [go_sem, sQ1, hks3, ei3, ev, q1, c0])
  have hi3 : i = (sharesI l).length := by rw [sharesI_len]; omega
  rw [hi3, List.take_length] at ow
  exact ⟨hle3, v, rfl, ow⟩
end Go.Bi
end
section
set_option maxRecDepth 20000
namespace Go.Bi
open Go.Proofs
open Go.Ai (wrap_i64 Heap)
variable {W0 : World} {P : Program}
set_option maxHeartbeats 4000000
theorem le_below {g0 g g' : H2} {N : Nat} (l : g0.le g) (h : hn g0 .mk ≤ N) (n : N ≤ hn g' .mk) (on : ∀ c, c < N → hg g' c .mk = hg g c .mk) : g0.le g' := ⟨Nat.le_trans h n, fun c hc => (on c (Nat.lt_of_lt_of_le hc h)).trans (l.2 c hc)⟩
theorem OnM.below {p : Option Nat} {g0 g g' : H2} {N : Nat} (l : OnM p g0 g) (h : hn g0 .mk ≤ N) (n : N ≤ hn g' .mk) (on : ∀ c, c < N → hg g' c .mk = hg g c .mk) : OnM p g0 g' := ⟨Nat.le_trans h n, fun c hc h2 => (on c (Nat.lt_of_lt_of_le hc h)).trans (l.2 c hc h2)⟩
theorem Mt.below {p : Option Nat} {g g' : H2} {N : Nat} {r s : Int} (m : Mt p g r s) (hN : ∀ b, p = some b → b < N) (n : N ≤ hn g' .mk) (on : ∀ c, c < N → hg g' c .mk = hg g c .mk) : Mt p g' r s := fun b e => ⟨Nat.lt_of_lt_of_le (hN b e) n, (on b (hN b e)).trans (m b e).2⟩
theorem appE {α : Type} {e : α → List T} {z : Nat} (hE : Ele e (z + 1)) {g : H2} {K : KT} {t u U y N : Nat} {zs : List Value} {l : List α} {a : α} {cs : List X} {x : X} {f : Adr} (he : Go.Ai.elt? P t = some (U, z + 1, y)) (hz : Go.Ai.zr? P U = some zs) (hl : zs.length = z + 1) (hu : Go.Ai.cls? P u = some .sl)
  (hy : y ≤ 1000) (hx : Own N g x (z + 1) l.length cs) (hc : ERow e (z + 1) cs l) (hN : N ≤ hn g .mk) (hn0 : l.length ≤ 1048576)
  (hk : ∀ v' g' cs', Own N g' v' (z + 1) (l ++ [a]).length cs' → ERow e (z + 1) cs' (l ++ [a]) → N ≤ hn g' .mk → (∀ c, c < N → hg g' c .mk = hg g c .mk) → kz K v' g' .mk) :
  az (biz P (g.up (hn g .mk + 1)) .append [t, u] [x, .sl f (z + 1) [e a]] .mk) K .mk := by
 refine append_E (l' := [a]) hE he hz hl hu (Own.keep hx (le_up (H2.le.refl _) (Nat.le_succ _))) hc (by rw [hn_up]; omega) ?_ ?_
 ·have : Go.Ai.most = 1099511627776 := rfl
  have : (l.length + 1) * (y + 1) ≤ 1048577 * 1001 := Nat.mul_le_mul (by omega) (by omega)
  show (l.length + 1) * (y + 1) ≤ Go.Ai.most
  omega
 intro v' g' cs' o c n l k
 exact hk v' g' cs' o c n k
theorem own_cell {N : Nat} {g : H2} {v : X} {z n : Nat} {cs : List X} (o : Own N g v z n cs) : cellsX v = some [v] ∧ okX v = true ∧ isTpX v = false := by
 obtain ⟨_, h⟩ := o
 rcases h with ⟨rfl, _⟩ | ⟨b, rfl, _⟩ <;> exact ⟨rfl, rfl, rfl⟩
theorem OwnI.put {N c : Nat} {g : H2} {v : X} {zs : List Int} {k : OB} (o : OwnI N g v zs) (h : c < N) : OwnI N (g.set c k) v zs := by
 obtain ⟨h1, h2⟩ := o
 exact ⟨h1, h2.imp_right fun ⟨b, e1, e2, e3, e4⟩ => ⟨b, e1, e2, e3, by rw [hg_set, show (b == c) = false by simp; omega]; exact e4⟩⟩
def headsL (x : List Int) (size n : Nat) : List (List Int) := (List.range n).map (headI x size)
theorem headsL_len {x : List Int} {size n : Nat} : (headsL x size n).length = n := by simp [headsL]
theorem headsA_ok {f : Adr} {x : List Int} {n size : Nat} {g : H2} (hn2 : n = 1 ∨ n = 2) (hs : 1 ≤ size) (hl : x.length = n * size) (h8 : x.length ≤ 8) : PW Tryz.prog W0 224 [.sl f 1 (ints x), .raw (.int .i64 n)] g (fun y => ∃ f, y = .tp [.sl f 1 (rIntSS (headsL x size n)), .raw (.bool true)]) := by
  refine (PW.of (q := fun _ => True) (Q := fun y => ∃ f, y = .tp [.sl f 1 (rIntSS (headsL x size n)), .raw (.bool true)]) ?_).mono fun y h => h.1
  refine begins [[0, 1], [0, 1], [], [0, 1], [0, 6], [0, 6, 7], [0, 6, 7, 8], [0, 6, 7, 8], [0, 6, 7, 8], [7]] Tryz.func224 rfl (rs := [.tmp 4, .tmp 5]) rfl rfl ?_
  intro wf
  have z1 : decide ((x.length : Int) = 0) = false := decide_eq_false (by rcases hn2 with rfl | rfl <;> omega)
  have z2 : decide (¬ ((0 : Int) = 0)) = false := by decide
  have z3 : ((n : Int) == 0) = false := by rw [beq_eq_false_iff_ne]; omega
  have t2 : Int.tmod (x.length : Int) (n : Int) = 0 := by show ((x.length % n : Nat) : Int) = 0; rw [hl, Nat.mul_mod_right]; rfl
  have t3 : Int.tdiv (x.length : Int) (n : Int) = (size : Int) := by show ((x.length / n : Nat) : Int) = _; rw [hl, Nat.mul_div_cancel_left _ (by omega)]
  have hs8 : size ≤ 8 := by rcases hn2 with rfl | rfl <;> omega
  have t4 : IntKind.i64.wrap (size : Int) = (size : Int) := by rw [wrap_i64] <;> omega
  repeat (first | rw [ko] | rw [kr] | simp -dsimp -implicitDefEqProofs only [go_sem, sQ1])
  refine wz_intro in_ok ?_
  rintro _ g ⟨rfl, rfl⟩
  rw [inI_mk (by omega) (by omega)]
  repeat (first | rw [ko] | rw [kr] | simp -dsimp -implicitDefEqProofs only [go_sem, sQ1, sQ3, z1, z3, t2, t3, t4])
  refine lz_keep [0, 6] (fun m e h' => ∃ (k i : Nat) (v : X) (cs : List X), g.le h' ∧ hn g .mk ≤ hn h' .mk ∧ i = k * size ∧ look e 8 .mk = .raw (.int .i64 (i : Nat)) ∧ look e 7 .mk = v ∧ m + k = n ∧ Own (hn g .mk) h' v 1 ((headsL x size n).take k).length cs ∧ ERow eIntS 1 cs ((headsL x size n).take k)) n ?_ ?_
  · exact ⟨0, 0, _, [], le_push (H2.le.refl _), by simp only [hn_push]; omega, by omega, zsm, by simp -dsimp -implicitDefEqProofs only [go_sem] <;> rfl, by omega, Own.new (Nat.le_refl _) rfl, .nil⟩
  rintro m e h' hks ⟨k, i, v, cs, hle, nn, hi, ei, ev, hm, ow, hc⟩
  simp -dsimp -implicitDefEqProofs only [go_sem, sQ1] at hks
  have c0 := own_cell ow
  by_cases q1 : (i : Int) < (x.length : Int)
  · have q2 : k < n := by
      rw [hl, hi] at q1
      rcases Nat.lt_or_ge k n with h | h
      · exact h
      · have := Nat.mul_le_mul_right size h; omega
    have q3 : i + size ≤ x.length := by
      have := Nat.mul_le_mul_right size (show k + 1 ≤ n from q2)
      rw [Nat.succ_mul] at this
      omega
    have w1 : IntKind.i64.wrap ((i : Int) + (size : Int)) = ((i + size : Nat) : Int) := by rw [wrap_i64] <;> omega
    have q4 : (i : Int) ≤ ((i + size : Nat) : Int) := by omega
    have q5 : ((i + size : Nat) : Int) ≤ (x.length : Int) := by omega
    have q6 : (0 : Int) ≤ ((i + size : Nat) : Int) := by omega
    have q7 : i ≤ i + size := by omega
    have q8 : i + size - i = size := by omega
    have hh : (x.drop i).take size = headI x size k := by unfold headI; rw [hi]
    have hhl : (headI x size k).length ≤ 1048576 := by unfold headI; rw [List.length_take]; omega
    repeat (first | rw [ko] | rw [kr] | simp -dsimp -implicitDefEqProofs only [go_sem, sQ1, hks, ei, ev, q1, w1, q4, q5, q6, q8, nat_nn, Int.toNat_natCast, hh])
    refine pw_intro (PI.pw (cloneI_ok hhl)) ?_
    rintro _ n1 hn1 ⟨⟨f2, rfl⟩, _⟩
    repeat (first | rw [ko] | rw [kr] | simp -dsimp -implicitDefEqProofs only [go_sem, sQ1, sQ3])
    refine appE (P := Tryz.prog) (a := headI x size k) eleI Go.Ai.ty_el23 Go.Ai.ty_zr25 rfl Go.Ai.ty_cl23 (by omega) (Own.keep ow (le_up (H2.le.refl _) hn1)) hc (by rw [hn_up]; omega) (by rw [List.length_take, headsL_len]; omega) ?_
    intro v4 g4 cs4 ow4 hc4 nn4 on4
    have e4 : (headsL x size n).take (k + 1) = (headsL x size n).take k ++ [headI x size k] := mapR_snoc q2
    rw [← e4] at ow4 hc4
    repeat (first | rw [ko] | rw [kr] | simp -dsimp -implicitDefEqProofs only [go_sem, sQ1, w1])
    exact nx_keep (m - 1) (by omega) zsm ⟨k + 1, i + size, v4, cs4, le_below (le_up hle hn1) (Nat.le_refl _) nn4 on4, nn4, by rw [Nat.succ_mul]; omega, zsm, zsm, by omega, ow4, hc4⟩
  · have q2 : k = n := by
      rw [hl, hi] at q1
      rcases Nat.lt_or_ge k n with h | h
      · have := Nat.mul_le_mul_right size (show k + 1 ≤ n from h)
        rw [Nat.succ_mul] at this
        omega
      · omega
    repeat (first | rw [ko] | rw [kr] | simp -dsimp -implicitDefEqProofs only [go_sem, sQ1, hks, ei, ev, q1, c0])
    have hi : k = (headsL x size n).length := by rw [headsL_len]; exact q2
    rw [hi, List.take_length] at ow hc
    obtain ⟨f, hf⟩ := erow_fz eleI (p := fun b => hn g .mk ≤ b) ow hc (fun b hb => hb)
    exact ⟨hle, _, fz2 hf .raw, f, rfl⟩
theorem cutB_succ {x : List Int} {sh i : Nat} (h : i < x.length) : cutB (x.take (i + 1)) sh = (cutB (x.take i) sh && inI (mulSh (x.getD i default) 1 sh) (-15) 15) := by
 unfold cutB
 rw [List.take_succ_eq_append_getElem h, List.all_append, List.getD_eq_getElem?_getD, List.getElem?_eq_getElem h]
 simp
theorem cutA_ok {f : Adr} {x : List Int} {sh : Nat} {g : H2} (hx : absB 127 x) (h8 : x.length ≤ 8) (hsh : sh ≤ 4) : WC2 Tryz.prog W0 240 [.sl f 1 (ints x), .raw (.int .i64 sh)] g (fun y g' => g.le g' ∧ ∃ v, y = .tp [v, .raw (.bool (cutB x sh))] ∧ OwnI (hn g .mk) g' v (cutV x sh)) := by
 refine begins [[0, 1], [0, 1], [0, 1, 6], [0, 1, 6, 7], [1, 6, 7, 12, 13, 14], [1, 6, 7, 12, 13, 14], [1, 6, 7, 9, 12, 13, 14], [1, 6, 7, 10, 12, 13, 14], [1, 6, 7, 10, 12, 13, 14], [1, 6, 7, 12, 13, 14], [6, 7]] Tryz.func240 rfl (rs := [.tmp 4, .tmp 5]) rfl rfl ?_
 intro wf
 repeat (first | rw [ko] | rw [kr] | simp -dsimp -implicitDefEqProofs only [go_sem, sQ1, sQ3])
 refine lz_keep [1, 12, 13] (fun m e h' => ∃ (i : Nat) (v : X), g.le h' ∧ hn g .mk ≤ hn h' .mk ∧ look e 14 .mk = .raw (.int .i64 (i : Nat)) ∧ look e 6 .mk = v ∧ look e 7 .mk = .raw (.bool (cutB (x.take i) sh)) ∧ m + i = x.length ∧ OwnI (hn g .mk) h' v ((cutV x sh).take i)) x.length ?_ ?_
 ·exact ⟨0, _, le_push (H2.le.refl _), by simp only [hn_push]; omega, zsm, by simp -dsimp -implicitDefEqProofs only [go_sem, sQ1] <;> rfl, by simp -dsimp -implicitDefEqProofs only [go_sem, sQ1] <;> rfl, by omega, Own.new (Nat.le_refl _) rfl⟩
 rintro m e h' hks ⟨i, v, hle, nn, ei, ev, eb, hm, ow⟩
 simp -dsimp -implicitDefEqProofs only [go_sem, sQ1] at hks
 have c0 := ownI_cell ow
 by_cases q1 : (i : Int) < (x.length : Int)
 ·have q2 : i < x.length := by omega
  have w1 := zwrs i (by omega)
  have hxi := getD_abs (by omega) hx i
  have hl2 : ((cutV x sh).take i).length ≤ 1048576 := by rw [List.length_take]; omega
  repeat (first | rw [ko] | rw [kr] | simp -dsimp -implicitDefEqProofs only [go_sem, sQ1, hks, ei, ev, eb, q1, q2])
  refine wz_intro (mulA_ok (by omega) (by omega) (by omega)) ?_
  rintro _ _ ⟨rfl, rfl⟩
  repeat (first | rw [ko] | rw [kr] | simp -dsimp -implicitDefEqProofs only [go_sem, sQ1])
  refine wz_intro (clamp1_ok (by omega) (by omega)) ?_
  rintro _ _ ⟨rfl, rfl⟩
  repeat (first | rw [ko] | rw [kr] | simp -dsimp -implicitDefEqProofs only [go_sem, sQ3])
  refine app1 (P := Tryz.prog) (D := fun _ => none) Go.Ai.ty_el25 Go.Ai.ty_zr3 Go.Ai.ty_cl25 (by omega) ow hle (by omega) nn hl2 ?_
  intro v4 g4 ow4 le4 nn4 on4
  have c4 := ownI_cell ow4
  have es := cutB_succ (sh := sh) q2
  cases hb : cutB (x.take i) sh
  ·rw [hb] at eb es
   repeat (first | rw [ko] | rw [kr] | simp -dsimp -implicitDefEqProofs only [go_sem, sQ1, w1])
   exact nx_keep (m - 1) (by omega) zsm ⟨i + 1, v4, le4, nn4, zsm, zsm, by rw [es]; simp -dsimp -implicitDefEqProofs only [go_sem, sQ1] <;> rfl, by omega, (mapL_snoc q2).symm ▸ ow4⟩
  ·rw [hb] at eb es
   repeat (first | rw [ko] | rw [kr] | simp -dsimp -implicitDefEqProofs only [go_sem, sQ1])
   refine wz_intro in_ok ?_
   rintro _ _ ⟨rfl, rfl⟩
   repeat (first | rw [ko] | rw [kr] | simp -dsimp -implicitDefEqProofs only [go_sem, sQ1, w1])
   exact nx_keep (m - 1) (by omega) zsm ⟨i + 1, v4, le4, nn4, zsm, zsm, by rw [es]; simp -dsimp -implicitDefEqProofs only [go_sem, sQ1] <;> rfl, by omega, (mapL_snoc q2).symm ▸ ow4⟩
 ·repeat (first | rw [ko] | rw [kr] | simp -dsimp -implicitDefEqProofs only [go_sem, sQ1, hks, ei, ev, eb, q1, c0])
  have hi : i = x.length := by omega
  have hi2 : i = (cutV x sh).length := by unfold cutV; rw [List.length_map]; omega
  rw [hi2, List.take_length] at ow
  rw [hi, List.take_length]
  exact ⟨hle, v, rfl, ow⟩
theorem cutS_is {x : List Int} {sh : Nat} (h : ∀ j, j < sh → cutB x j = false) (h4 : sh ≤ 4) (hb : cutB x sh = true ∨ sh = 4) : cutS x = sh := by
 unfold cutS
 have : sh = 0 ∨ sh = 1 ∨ sh = 2 ∨ sh = 3 ∨ sh = 4 := by omega
 rcases this with rfl | rfl | rfl | rfl | rfl
 ·rcases hb with hb | hb
  ·rw [if_pos hb]
  ·omega
 ·rcases hb with hb | hb
  ·rw [if_neg (by rw [h 0 (by omega)]; decide), if_pos hb]
  ·omega
 ·rcases hb with hb | hb
  ·rw [if_neg (by rw [h 0 (by omega)]; decide), if_neg (by rw [h 1 (by omega)]; decide), if_pos hb]
  ·omega
 ·rcases hb with hb | hb
  ·rw [if_neg (by rw [h 0 (by omega)]; decide), if_neg (by rw [h 1 (by omega)]; decide), if_neg (by rw [h 2 (by omega)]; decide), if_pos hb]
  ·omega
 ·rw [if_neg (by rw [h 0 (by omega)]; decide), if_neg (by rw [h 1 (by omega)]; decide), if_neg (by rw [h 2 (by omega)]; decide), if_neg (by rw [h 3 (by omega)]; decide)]
def PartA (N : Nat) (g : H2) (y : X) (x : List Int) : Prop := ∃ v, y = .tp [.st [.raw (.int .i64 (cutS x)), v], .raw (.bool true)] ∧ OwnI N g v (cutV x (cutS x))
theorem cutDownA_ok {f : Adr} {x : List Int} {g : H2} (hx : absB 127 x) (h1 : 1 ≤ x.length) (h8 : x.length ≤ 8) : WC2 Tryz.prog W0 225 [.sl f 1 (ints x)] g (fun y g' => g.le g' ∧ PartA (hn g .mk) g' y x) := by
 refine begins [[0], [0, 2], [2], [0, 2], [0, 2, 4], [0, 2, 4], [0, 2, 4, 5, 6], [2, 4, 5]] Tryz.func225 rfl (rs := [.cell 2 196, .tmp 3]) rfl rfl ?_
 intro wf
 repeat (first | rw [ko] | rw [kr] | simp -dsimp -implicitDefEqProofs only [go_sem, hoo])
 refine wz_intro in_ok ?_
 rintro _ _ ⟨rfl, rfl⟩
 rw [inI_mk (by omega) (by omega)]
 repeat (first | rw [ko] | rw [kr] | simp -dsimp -implicitDefEqProofs only [go_sem, sQ1, hoo])
 refine pw_intro (allIn_ok (by omega)) ?_
 rintro _ n1 hn1 rfl
 rw [allI_absB hx (by omega)]
 rw [hn_push] at hn1
 repeat (first | rw [ko] | rw [kr] | simp -dsimp -implicitDefEqProofs only [go_sem, sQ1, hoo])
 refine lz_keep [0, 2] (fun m e h' => ∃ (sh : Nat), g.le h' ∧ hn g .mk + 1 ≤ hn h' .mk ∧ hg h' (hn g .mk) .mk = some ⟨2, [.raw (.int .i64 0), .raw (.slice none 0 0)]⟩ ∧ look e 4 .mk = .raw (.int .i64 (sh : Nat)) ∧ m + sh = 5 ∧ sh ≤ 4 ∧ ∀ j, j < sh → cutB x j = false) 5 ?_ ?_
 ·exact ⟨0, le_up (le_push (H2.le.refl _)) (by rw [hn_push]; exact hn1), by simp only [hn_up]; omega, by simp -dsimp -implicitDefEqProofs only [go_sem, hoo], zsm, by omega, by omega, fun j hj => by omega⟩
 rintro m e h' hks ⟨sh, hle, nn, row, ei, hm, h4, hpre⟩
 simp -dsimp -implicitDefEqProofs only [go_sem] at hks
 repeat (first | rw [ko] | rw [kr] | simp -dsimp -implicitDefEqProofs only [go_sem, sQ1, hks, ei])
 refine wz_intro (cutA_ok hx h8 h4) ?_
 rintro _ g2 ⟨l2, v, rfl, ow⟩
 have c0 := ownI_cell ow
 have row2 := (l2.2 (hn g .mk) (by omega)).trans row
 have w1 := zwrs sh (by omega)
 have fin : ∀ (hb : cutB x sh = true ∨ sh = 4), OwnI (hn g .mk + 1) g2 v (cutV x (cutS x)) ∧ ((cutS x : Nat) : Int) = sh := fun hb => by rw [cutS_is hpre h4 hb]; exact ⟨ow.wide (by omega), rfl⟩
 cases hb : cutB x sh
 ·by_cases h5 : sh = 4
  ·have e5 : decide ((sh : Int) = 4) = true := decide_eq_true (by omega)
   repeat (first | rw [ko] | rw [kr] | simp -dsimp -implicitDefEqProofs only [go_sem, sQ1, sQ2, c0, row2, e5])
   obtain ⟨o2, e2⟩ := fin (.inr h5)
   refine ⟨le_set (hle.trans l2) (Nat.le_refl _), v, ?_, ?_⟩
   ·rw [e2]
   ·exact (OwnI.put o2 (by omega)).wide (by omega)
  ·have e5 : decide ((sh : Int) = 4) = false := decide_eq_false (by omega)
   repeat (first | rw [ko] | rw [kr] | simp -dsimp -implicitDefEqProofs only [go_sem, sQ1, e5, w1])
   exact nx_keep (m - 1) (by omega) zsm ⟨sh + 1, hle.trans l2, by have := l2.1; omega, row2, zsm, by omega, by omega, fun j hj => by
    by_cases e : j = sh
    ·subst e; exact hb
    ·exact hpre j (by omega)⟩
 ·repeat (first | rw [ko] | rw [kr] | simp -dsimp -implicitDefEqProofs only [go_sem, sQ1, sQ2, c0, row2])
  obtain ⟨o2, e2⟩ := fin (.inl hb)
  refine ⟨le_set (hle.trans l2) (Nat.le_refl _), v, ?_, ?_⟩
  ·rw [e2]
  ·exact (OwnI.put o2 (by omega)).wide (by omega)
end Go.Bi
end
