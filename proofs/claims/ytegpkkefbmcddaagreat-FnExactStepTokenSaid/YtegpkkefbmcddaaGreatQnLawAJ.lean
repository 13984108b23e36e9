/- Own lemmas that the theorem of this claim needs: the abstract machine and walks of functions. -/
import Derived.Test.YtegpkkefbmcddaaGreatQnLawAI
set_option linter.unusedSimpArgs false
set_option linter.unusedVariables false
open Nat renaming reduceBEq → sQ1, reduceAdd → sQ2, reduceLeDiff → sQ3, reduceMul → sQ4
open Int renaming reduceLE → sQ5, reduceLT → sQ6, reduceBEq → sQ7
section
set_option maxRecDepth 20000
namespace Go.Bi
open Go.Proofs
open Go.Ai (wrap_i64 Heap)
variable {W0 : World} {P : Program}
set_option maxHeartbeats 4000000
def layB (l : LLayer) (d : Int) : Bool := gainB l.gain1 d && (gainB l.gain2 d && (widthB l.up.rows.length && (withB l.q d d && (withB l.k d d && (withB l.v d d && (withB l.o d d && (withB l.up d l.up.rows.length && withB l.down l.up.rows.length d)))))))
def rMx (l : List LMatrix) : List (List T) := l.map eMatrix
theorem rMx_len {l : List LMatrix} : (rMx l).length = l.length := by simp [rMx]
theorem rMx_el {l : List LMatrix} {i : Nat} (hi : i < l.length) : el (rMx l) i = eMatrix (l.getD i default) := el_map hi
attribute [go_sem] rMx_len rMx_el
def smallY (l : LLayer) : Prop := l.gain1.length ≤ 1048576 ∧ l.gain2.length ≤ 1048576 ∧ smallM l.q ∧ smallM l.k ∧ smallM l.v ∧ smallM l.o ∧ smallM l.up ∧ smallM l.down
theorem specLayer_ok {F : Nat → Adr} {l : LLayer} {d : Int} {g : H2} (hs : smallY l) : PW Tryz.prog W0 103 [.st (xLayer F l), .raw (.int .i64 d)] g (fun y => y = .raw (.bool (widthB d && layB l d))) := by
 obtain ⟨s1, s2, s3, s4, s5, s6, s7, s8⟩ := hs
 refine PW.scalar ?_
 refine begins [[0, 1], [1, 2], [1, 2, 5]] Tryz.func103 rfl (rs := [.tmp 4]) rfl rfl ?_
 intro wf
 repeat (first | rw [ko] | rw [kr] | simp -dsimp -implicitDefEqProofs only [go_sem, sQ1, sQ2, hoo])
 refine wz_intro l05Width_ok ?_
 rintro _ _ ⟨rfl, rfl⟩
 cases h1 : widthB d
 ·repeat (first | rw [ko] | rw [kr] | simp -dsimp -implicitDefEqProofs only [go_sem, sQ1, hoo])
  exact ⟨le_push (H2.le.refl _), ⟨_, rfl⟩, rfl⟩
 repeat (first | rw [ko] | rw [kr] | simp -dsimp -implicitDefEqProofs only [go_sem, sQ1, hoo])
 refine wz_intro l05Width_ok ?_
 rintro _ _ ⟨rfl, rfl⟩
 cases h2 : widthB l.up.rows.length
 ·repeat (first | rw [ko] | rw [kr] | simp -dsimp -implicitDefEqProofs only [go_sem, sQ1, hoo])
  exact ⟨le_push (H2.le.refl _), ⟨_, rfl⟩, by rw [layB, h2]; simp⟩
 repeat (first | rw [ko] | rw [kr] | simp -dsimp -implicitDefEqProofs only [go_sem, sQ1, hoo])
 refine pw_intro (specGain_ok s1) ?_
 rintro _ n3 hn3 rfl
 try simp only [hn_push] at hn3
 cases h3 : gainB l.gain1 d
 ·repeat (first | rw [ko] | rw [kr] | simp -dsimp -implicitDefEqProofs only [go_sem, sQ1, hoo])
  exact ⟨le_up (le_push (H2.le.refl _)) (by first | exact hn3 | (simp only [hn_push, hn_up]; omega)), ⟨_, rfl⟩, by rw [layB, h2, h3]; simp⟩
 repeat (first | rw [ko] | rw [kr] | simp -dsimp -implicitDefEqProofs only [go_sem, sQ1, hoo])
 refine pw_intro (specGain_ok s2) ?_
 rintro _ n4 hn4 rfl
 try simp only [hn_up] at hn4
 cases h4 : gainB l.gain2 d
 ·repeat (first | rw [ko] | rw [kr] | simp -dsimp -implicitDefEqProofs only [go_sem, sQ1, hoo])
  exact ⟨le_up (le_up (le_push (H2.le.refl _)) (by first | exact hn3 | (simp only [hn_push, hn_up]; omega))) (by first | exact hn4 | (simp only [hn_push, hn_up]; omega)), ⟨_, rfl⟩, by rw [layB, h2, h3, h4]; simp⟩
 repeat (first | rw [ko] | rw [kr] | simp -dsimp -implicitDefEqProofs only [go_sem, sQ1, hoo])
 refine pw_intro (l10Matrix_ok (F := fun j => F (j + 1)) (m := l.q) s3) ?_
 rintro _ n5 hn5 rfl
 try simp only [hn_up] at hn5
 cases h5 : withB l.q d d
 ·repeat (first | rw [ko] | rw [kr] | simp -dsimp -implicitDefEqProofs only [go_sem, sQ1, hoo])
  exact ⟨le_up (le_up (le_up (le_push (H2.le.refl _)) (by first | exact hn3 | (simp only [hn_push, hn_up]; omega))) (by first | exact hn4 | (simp only [hn_push, hn_up]; omega))) (by first | exact hn5 | (simp only [hn_push, hn_up]; omega)), ⟨_, rfl⟩, by rw [layB, h2, h3, h4, h5]; simp⟩
 repeat (first | rw [ko] | rw [kr] | simp -dsimp -implicitDefEqProofs only [go_sem, sQ1, hoo])
 refine pw_intro (l10Matrix_ok (F := fun j => F (j + 6)) (m := l.k) s4) ?_
 rintro _ n6 hn6 rfl
 try simp only [hn_up] at hn6
 cases h6 : withB l.k d d
 ·repeat (first | rw [ko] | rw [kr] | simp -dsimp -implicitDefEqProofs only [go_sem, sQ1, hoo])
  exact ⟨le_up (le_up (le_up (le_up (le_push (H2.le.refl _)) (by first | exact hn3 | (simp only [hn_push, hn_up]; omega))) (by first | exact hn4 | (simp only [hn_push, hn_up]; omega))) (by first | exact hn5 | (simp only [hn_push, hn_up]; omega))) (by first | exact hn6 | (simp only [hn_push, hn_up]; omega)), ⟨_, rfl⟩, by rw [layB, h2, h3, h4, h5, h6]; simp⟩
 repeat (first | rw [ko] | rw [kr] | simp -dsimp -implicitDefEqProofs only [go_sem, sQ1, hoo])
 refine pw_intro (l10Matrix_ok (F := fun j => F (j + 11)) (m := l.v) s5) ?_
 rintro _ n7 hn7 rfl
 try simp only [hn_up] at hn7
 cases h7 : withB l.v d d
 ·repeat (first | rw [ko] | rw [kr] | simp -dsimp -implicitDefEqProofs only [go_sem, sQ1, hoo])
  exact ⟨le_up (le_up (le_up (le_up (le_up (le_push (H2.le.refl _)) (by first | exact hn3 | (simp only [hn_push, hn_up]; omega))) (by first | exact hn4 | (simp only [hn_push, hn_up]; omega))) (by first | exact hn5 | (simp only [hn_push, hn_up]; omega))) (by first | exact hn6 | (simp only [hn_push, hn_up]; omega))) (by first | exact hn7 | (simp only [hn_push, hn_up]; omega)), ⟨_, rfl⟩, by rw [layB, h2, h3, h4, h5, h6, h7]; simp⟩
 repeat (first | rw [ko] | rw [kr] | simp -dsimp -implicitDefEqProofs only [go_sem, sQ1, hoo])
 refine pw_intro (l10Matrix_ok (F := fun j => F (j + 16)) (m := l.o) s6) ?_
 rintro _ n8 hn8 rfl
 try simp only [hn_up] at hn8
 cases h8 : withB l.o d d
 ·repeat (first | rw [ko] | rw [kr] | simp -dsimp -implicitDefEqProofs only [go_sem, sQ1, hoo])
  exact ⟨le_up (le_up (le_up (le_up (le_up (le_up (le_push (H2.le.refl _)) (by first | exact hn3 | (simp only [hn_push, hn_up]; omega))) (by first | exact hn4 | (simp only [hn_push, hn_up]; omega))) (by first | exact hn5 | (simp only [hn_push, hn_up]; omega))) (by first | exact hn6 | (simp only [hn_push, hn_up]; omega))) (by first | exact hn7 | (simp only [hn_push, hn_up]; omega))) (by first | exact hn8 | (simp only [hn_push, hn_up]; omega)), ⟨_, rfl⟩, by rw [layB, h2, h3, h4, h5, h6, h7, h8]; simp⟩
 repeat (first | rw [ko] | rw [kr] | simp -dsimp -implicitDefEqProofs only [go_sem, sQ1, hoo])
 refine pw_intro (l10Matrix_ok (F := fun j => F (j + 22)) (m := l.up) s7) ?_
 rintro _ n9 hn9 rfl
 try simp only [hn_up] at hn9
 cases h9 : withB l.up d l.up.rows.length
 ·repeat (first | rw [ko] | rw [kr] | simp -dsimp -implicitDefEqProofs only [go_sem, sQ1, hoo])
  exact ⟨le_up (le_up (le_up (le_up (le_up (le_up (le_up (le_push (H2.le.refl _)) (by first | exact hn3 | (simp only [hn_push, hn_up]; omega))) (by first | exact hn4 | (simp only [hn_push, hn_up]; omega))) (by first | exact hn5 | (simp only [hn_push, hn_up]; omega))) (by first | exact hn6 | (simp only [hn_push, hn_up]; omega))) (by first | exact hn7 | (simp only [hn_push, hn_up]; omega))) (by first | exact hn8 | (simp only [hn_push, hn_up]; omega))) (by first | exact hn9 | (simp only [hn_push, hn_up]; omega)), ⟨_, rfl⟩, by rw [layB, h2, h3, h4, h5, h6, h7, h8, h9]; simp⟩
 repeat (first | rw [ko] | rw [kr] | simp -dsimp -implicitDefEqProofs only [go_sem, sQ1, hoo])
 refine pw_intro (l10Matrix_ok (F := fun j => F (j + 27)) (m := l.down) s8) ?_
 rintro _ n10 hn10 rfl
 try simp only [hn_up] at hn10
 repeat (first | rw [ko] | rw [kr] | simp -dsimp -implicitDefEqProofs only [go_sem, sQ1, hoo])
 exact ⟨le_up (le_up (le_up (le_up (le_up (le_up (le_up (le_up (le_push (H2.le.refl _)) (by first | exact hn3 | (simp only [hn_push, hn_up]; omega))) (by first | exact hn4 | (simp only [hn_push, hn_up]; omega))) (by first | exact hn5 | (simp only [hn_push, hn_up]; omega))) (by first | exact hn6 | (simp only [hn_push, hn_up]; omega))) (by first | exact hn7 | (simp only [hn_push, hn_up]; omega))) (by first | exact hn8 | (simp only [hn_push, hn_up]; omega))) (by first | exact hn9 | (simp only [hn_push, hn_up]; omega))) (by first | exact hn10 | (simp only [hn_push, hn_up]; omega)), ⟨_, rfl⟩, by rw [layB, h2, h3, h4, h5, h6, h7, h8, h9]; simp⟩
theorem implLayer_ok {F : Nat → Adr} {l : LLayer} {d : Int} {g : H2} (hs : smallY l) : PW Tryz.prog W0 126 [.st (xLayer F l), .raw (.int .i64 d)] g (fun y => y = .raw (.bool (layB l d))) := by
 obtain ⟨s1, s2, s3, s4, s5, s6, s7, s8⟩ := hs
 refine PW.scalar ?_
 refine begins [[0, 1], [1, 2], [1, 2, 5], [], [1, 2, 5], [1, 2, 5, 37, 38, 39], [1, 2, 5, 37, 38, 39], [1, 2, 5, 7, 37, 38, 39], [], [1, 2, 5, 37, 38, 39], [1, 2, 5]] Tryz.func126 rfl (rs := [.tmp 4]) rfl rfl ?_
 intro wf
 repeat (first | rw [ko] | rw [kr] | simp -dsimp -implicitDefEqProofs only [go_sem, sQ1, sQ2, hoo])
 refine pw_intro (implGain_ok s1) ?_
 rintro _ n1 hn1 rfl
 simp only [hn_push] at hn1
 have L1 : ∀ k : OB, g.le ((g.push k).up n1) := fun k => le_up (le_push (H2.le.refl _)) (by rw [hn_push]; exact hn1)
 cases h1 : gainB l.gain1 d
 ·repeat (first | rw [ko] | rw [kr] | simp -dsimp -implicitDefEqProofs only [go_sem, sQ1, hoo])
  exact ⟨L1 _, ⟨_, rfl⟩, by rw [layB, h1]; rfl⟩
 repeat (first | rw [ko] | rw [kr] | simp -dsimp -implicitDefEqProofs only [go_sem, sQ1, hoo])
 refine pw_intro (implGain_ok s2) ?_
 rintro _ n2 hn2 rfl
 rw [hn_up] at hn2
 have L2 : ∀ k : OB, g.le (((g.push k).up n1).up n2) := fun k => le_up (L1 k) (by rw [hn_up]; exact hn2)
 cases h2 : gainB l.gain2 d
 ·repeat (first | rw [ko] | rw [kr] | simp -dsimp -implicitDefEqProofs only [go_sem, sQ1, hoo])
  exact ⟨L2 _, ⟨_, rfl⟩, by rw [layB, h1, h2]; rfl⟩
 repeat (first | rw [ko] | rw [kr] | simp -dsimp -implicitDefEqProofs only [go_sem, sQ1, hoo])
 refine wz_intro isWidth_ok ?_
 rintro _ _ ⟨rfl, rfl⟩
 cases h3 : widthB l.up.rows.length
 ·repeat (first | rw [ko] | rw [kr] | simp -dsimp -implicitDefEqProofs only [go_sem, hoo])
  exact ⟨L2 _, ⟨_, rfl⟩, by rw [layB, h1, h2, h3]; rfl⟩
 repeat (first | rw [ko] | rw [kr] | simp -dsimp -implicitDefEqProofs only [go_sem, sQ1, sQ2, sQ3, sQ4, hoo])
 have L3 : ∀ k : OB, g.le ((((g.push k).up n1).up n2).up (n2 + 1)) := fun k => le_up (L2 k) (Nat.le_succ _)
 generalize hF : litA n2 4 5 _ = fL
 have hes : ([[.v (.int .i64 l.q.width), .l 1 (rIntSS l.q.rows), .l 1 (rIntSS l.q.scales), .v (.int .i64 l.q.mul), .v (.int .i64 l.q.shift)], [.v (.int .i64 l.k.width), .l 1 (rIntSS l.k.rows), .l 1 (rIntSS l.k.scales), .v (.int .i64 l.k.mul), .v (.int .i64 l.k.shift)], [.v (.int .i64 l.v.width), .l 1 (rIntSS l.v.rows), .l 1 (rIntSS l.v.scales), .v (.int .i64 l.v.mul), .v (.int .i64 l.v.shift)], [.v (.int .i64 l.o.width), .l 1 (rIntSS l.o.rows), .l 1 (rIntSS l.o.scales), .v (.int .i64 l.o.mul), .v (.int .i64 l.o.shift)]] : List (List T)) = rMx [l.q, l.k, l.v, l.o] := rfl
 rw [hes]
 have hsm : ∀ i, i < 4 → smallM (([l.q, l.k, l.v, l.o] : List LMatrix).getD i default) := fun i hi => by
  have hc : i = 0 ∨ i = 1 ∨ i = 2 ∨ i = 3 := by omega
  rcases hc with rfl | rfl | rfl | rfl
  ·exact s3
  ·exact s4
  ·exact s5
  ·exact s6
 have hB : layB l d = ((List.range 4).all (fun i => withB (([l.q, l.k, l.v, l.o] : List LMatrix).getD i default) d d) && (withB l.up d l.up.rows.length && withB l.down l.up.rows.length d)) := by
  rw [layB, h1, h2, h3]
  show _ = ((withB l.q d d && (withB l.k d d && (withB l.v d d && (withB l.o d d && true)))) && _)
  simp only [Bool.and_true, Bool.true_and, Bool.and_assoc]
 have hlen : ([l.q, l.k, l.v, l.o] : List LMatrix).length = 4 := rfl
 generalize ([l.q, l.k, l.v, l.o] : List LMatrix) = Ms at *
 refine lz_keep [1, 2, 5, 37, 38] (fun mm e h' => ∃ (i : Nat), g.le h' ∧ hn g .mk < hn h' .mk ∧ hg h' (hn g .mk) .mk = some ⟨32, xLayer F l⟩ ∧ look e 39 .mk = .raw (.int .i64 (i : Nat)) ∧ mm + i = 4 ∧ ∀ j, j < i → withB (Ms.getD j default) d d = true) 4 ?_ ?_
 ·exact ⟨0, L3 _, by simp only [hn_up]; omega, by simp -dsimp -implicitDefEqProofs only [go_sem, hoo], zsm, by omega, fun j hj => by omega⟩
 ·rintro mm e h' hks ⟨i, hle, hlt, row, ei, hm, hpre⟩
  simp -dsimp -implicitDefEqProofs only [go_sem, sQ1] at hks
  simp -dsimp -implicitDefEqProofs only [go_sem] at row
  by_cases q1 : (i : Int) < ((4 : Nat) : Int)
  ·have q2 : i < Ms.length := by omega
   have w1 := zwrs i (by omega)
   repeat (first | rw [ko] | rw [kr] | simp -dsimp -implicitDefEqProofs only [go_sem, sQ1, sQ2, sQ3, hks, ei, q1, q2, hoo])
   refine pw_intro (implWithin_ok (F := fun j => under (under fL i) j) (m := Ms.getD i default) (hsm i (by omega))) ?_
   rintro _ n3 hn3 rfl
   rw [hn_push] at hn3
   have hnx : (hn g .mk == hn h' .mk) = false := zne
   cases q3 : withB (Ms.getD i default) d d
   ·repeat (first | rw [ko] | rw [kr] | simp -dsimp -implicitDefEqProofs only [go_sem, hoo])
    refine ⟨le_up (le_push hle) (by rw [hn_push]; exact hn3), ⟨_, rfl⟩, ?_⟩
    rw [hB, range_bad (show i < 4 by omega) q3]; rfl
   ·repeat (first | rw [ko] | rw [kr] | simp -dsimp -implicitDefEqProofs only [go_sem, sQ1, hoo, w1])
    refine nx_keep (mm - 1) (by omega) zsm ⟨i + 1, le_up (le_push hle) (by rw [hn_push]; exact hn3), by simp only [hn_up]; omega, by simp -dsimp -implicitDefEqProofs only [go_sem, hnx, row], zsm, by omega, fun j hj => ?_⟩
    by_cases hji : j = i
    ·subst hji; exact q3
    ·exact hpre j (by omega)
  ·repeat (first | rw [ko] | rw [kr] | simp -dsimp -implicitDefEqProofs only [go_sem, sQ1, hks, ei, row, q1, hoo])
   have hall := range_all (n := 4) fun j hj => hpre j (by omega)
   refine pw_intro (implWithin_ok (F := fun j => F (j + 22)) (m := l.up) s7) ?_
   rintro _ n3 hn3 rfl
   cases q3 : withB l.up d l.up.rows.length
   ·repeat (first | rw [ko] | rw [kr] | simp -dsimp -implicitDefEqProofs only [go_sem, sQ1, hoo])
    exact ⟨le_up hle hn3, ⟨_, rfl⟩, by rw [hB, hall, q3]; rfl⟩
   repeat (first | rw [ko] | rw [kr] | simp -dsimp -implicitDefEqProofs only [go_sem, sQ1, row, hoo])
   refine pw_intro (implWithin_ok (F := fun j => F (j + 27)) (m := l.down) s8) ?_
   rintro _ n4 hn4 rfl
   repeat (first | rw [ko] | rw [kr] | simp -dsimp -implicitDefEqProofs only [go_sem, sQ1])
   exact ⟨le_up (le_up hle hn3) hn4, ⟨_, rfl⟩, by rw [hB, hall, q3]; rfl⟩
end Go.Bi
end
section
set_option maxRecDepth 20000
namespace Go.Bi
open Go.Proofs
open Go.Ai (wrap_i64)
variable {W0 : World} {P : Program}
set_option maxHeartbeats 4000000
instance : DecidableEq LMerge := fun x y => match x, y with
  | ⟨a, b⟩, ⟨c, d⟩ => if h : a = c ∧ b = d then isTrue (by rw [h.1, h.2]) else isFalse (fun e => h (by cases e; exact ⟨rfl, rfl⟩))
theorem LMerge.eq_iff {x y : LMerge} : x = y ↔ x.a = y.a ∧ x.b = y.b := by
 cases x; cases y; simp
theorem eq_merge {t : TypeId} {x y : LMerge} (hT : Go.Ai.intS? P t = some 2) : binX P .eql t (.st [.raw (.int .i64 x.a), .raw (.int .i64 x.b)]) (.st [.raw (.int .i64 y.a), .raw (.int .i64 y.b)]) = some (.raw (.bool (decide (x = y)))) := by
 rw [eq_st2 hT]
 congr 3
 rw [Bool.and_true]
 by_cases h : x = y
 ·rw [decide_eq_true h, h]; simp
 ·rw [decide_eq_false h]
  rw [LMerge.eq_iff] at h
  by_cases h1 : x.a = y.a
  ·have h2 : ¬ x.b = y.b := fun e => h ⟨h1, e⟩
   simp [h2]
  ·simp [h1]
def latM (l : List Int) (i : Nat) : Int := l.getD i 0
theorem get_M {l : List Int} {i : Nat} (h : i < l.length) : (l.map cI)[i]? = some (.raw (.int .i64 (latM l i))) := by
 rw [List.getElem?_map, List.getElem?_eq_getElem h, latM, List.getD_eq_getElem?_getD, List.getElem?_eq_getElem h]; rfl
def szOne (out : List Int) (t : Int) : Int := if t < 256 then 1 else latM out (t - 256).toNat
def mAt (l : List LMerge) (i : Nat) : LMerge := l.getD i default
def outs (l : List LMerge) : Nat → List Int
 | 0 => []
 | i + 1 => outs l i ++ [szOne (outs l i) (mAt l i).a + szOne (outs l i) (mAt l i).b]
theorem outs_len {l : List LMerge} : ∀ {i : Nat}, (outs l i).length = i
 | 0 => rfl
 | i + 1 => by rw [outs, List.length_append, outs_len]; rfl
def tokAt (l : List LMerge) (i : Nat) : Bool := inI (mAt l i).a 0 (255 + (i : Int)) && inI (mAt l i).b 0 (255 + (i : Int))
def nAt (l : List LMerge) (i : Nat) : Int := szOne (outs l i) (mAt l i).a + szOne (outs l i) (mAt l i).b
def stepOk (l : List LMerge) (i : Nat) : Bool := tokAt l i && decide (nAt l i ≤ 64)
def dupAt (l : List LMerge) (i : Nat) : Bool := decide (mAt l i ∈ l.take i)
def mergesB (l : List LMerge) : Bool := decide (l.length ≤ 16) && (List.range l.length).all fun i => stepOk l i && !dupAt l i
theorem mergesB_bad {l : List LMerge} {i : Nat} (hi : i < l.length) (h : (stepOk l i && !dupAt l i) = false) : mergesB l = false := by
 unfold mergesB
 rw [Bool.and_eq_false_iff]; right
 rw [List.all_eq_false]
 exact ⟨i, List.mem_range.2 hi, by rw [h]; simp⟩
theorem mergesB_ok {l : List LMerge} (h0 : l.length ≤ 16) (h : ∀ i, i < l.length → (stepOk l i && !dupAt l i) = true) : mergesB l = true := by
 unfold mergesB
 simp only [h0, decide_true, Bool.true_and, List.all_eq_true]
 intro i hi; exact h i (List.mem_range.1 hi)
theorem mergesB_len {l : List LMerge} (h : ¬ l.length ≤ 16) : mergesB l = false := by unfold mergesB; rw [decide_eq_false h]; rfl
theorem outs_rng {l : List LMerge} : ∀ {i : Nat}, (∀ j, j < i → stepOk l j = true) → ∀ k, k < i → 1 ≤ latM (outs l i) k ∧ latM (outs l i) k ≤ 64
 | 0, _, k, hk => by omega
 | i + 1, h, k, hk => by
  have ih := outs_rng (l := l) (i := i) fun j hj => h j (by omega)
  have hs := h i (by omega)
  unfold stepOk tokAt at hs
  simp only [Bool.and_eq_true, decide_eq_true_eq] at hs
  obtain ⟨⟨ha, hb⟩, hn⟩ := hs
  have ha := inI_t0 ha
  have hb := inI_t0 hb
  have one : ∀ t : Int, 0 ≤ t ∧ t ≤ 255 + (i : Int) → 1 ≤ szOne (outs l i) t := fun t ht => by
   unfold szOne; split
   ·omega
   ·exact (ih _ (by omega)).1
  have h1 := one _ ha
  have h2 := one _ hb
  rw [outs]
  unfold latM
  by_cases hki : k < i
  ·rw [List.getD_eq_getElem?_getD, List.getElem?_append_left (by rw [outs_len]; exact hki), ← List.getD_eq_getElem?_getD]
   exact ih k hki
  ·obtain rfl : k = i := by omega
   rw [List.getD_eq_getElem?_getD, List.getElem?_append_right (by rw [outs_len]; exact Nat.le_refl _), outs_len, Nat.sub_self]
   unfold nAt at hn
   simp only [List.getElem?_cons_zero, Option.getD_some]
   omega
where
 inI_t0 {x a b : Int} (h : inI x a b = true) : a ≤ x ∧ x ≤ b := by simpa [inI] using h
theorem inI_tt {x a b : Int} (h : inI x a b = true) : a ≤ x ∧ x ≤ b := by simpa [inI] using h
theorem one_rng {l : List LMerge} {i : Nat} {t : Int} (h : ∀ j, j < i → stepOk l j = true) (ht : 0 ≤ t ∧ t ≤ 255 + (i : Int)) : 1 ≤ szOne (outs l i) t ∧ szOne (outs l i) t ≤ 64 := by
 unfold szOne; split
 ·omega
 ·exact outs_rng h _ (by omega)
theorem indexM_ok {f : Adr} {F : Nat → Adr} {l : List LMerge} {m : LMerge} {g : H2} (hl : l.length ≤ 1048576) : PW Tryz.prog W0 212 [.sl f 2 (rMergeS l), .st (xMerge F m)] g (fun y => ∃ k : Int, y = .raw (.int .i64 k) ∧ (0 ≤ k ↔ m ∈ l)) := by
 have hT : Go.Ai.intS? Tryz.prog 165 = some 2 := by kernel_rfl
 refine PW.scalar ?_
 refine begins [[0, 1], [0, 3], [0, 3, 7, 8], [0, 3, 7, 8], [0, 3, 5, 7, 8], [5], [0, 3, 7, 8], []] Tryz.func212 rfl (rs := [.tmp 4]) rfl rfl ?_
 intro wf
 repeat (first | rw [ko] | rw [kr] | simp -dsimp -implicitDefEqProofs only [go_sem])
 refine lz_keep [0, 3, 7] (fun s e h' => ∃ i : Nat, h' = g.push ⟨2, xMerge F m⟩ ∧ look e 8 .mk = .raw (.int .i64 (i : Nat)) ∧ s + i = l.length ∧ ∀ j, j < i → mAt l j ≠ m) l.length ?_ ?_
 ·exact ⟨0, rfl, zsm, by omega, fun j hj => by omega⟩
 ·rintro s e h' hks ⟨i, rfl, e8, hsi, hpre⟩
  simp -dsimp -implicitDefEqProofs only [go_sem, sQ1] at hks
  by_cases h1 : (i : Int) < (l.length : Int)
  ·have hi : i < l.length := by omega
   have hE := eq_merge (x := m) (y := l.getD i default) hT
   repeat (first | rw [ko] | rw [kr] | simp -dsimp -implicitDefEqProofs only [go_sem, sQ1, hks, e8, h1])
   refine dq_intro [(0, []), (1, []), (2, []), (3, []), (4, []), (5, [])] (by kernel_rfl) ?_
   by_cases hm : m = l.getD i default
   ·repeat (first | rw [ko] | rw [kr] | simp -dsimp -implicitDefEqProofs only [go_sem, sQ1, sQ2, sQ3, hi, hoo, hE, decide_eq_true hm])
    refine ⟨le_push (H2.le.refl _), ⟨_, rfl⟩, _, rfl, ⟨fun _ => by rw [hm]; exact getD_mem hi, fun _ => by omega⟩⟩
   ·repeat (first | rw [ko] | rw [kr] | simp -dsimp -implicitDefEqProofs only [go_sem, sQ1, sQ2, sQ3, hi, hoo, hE, decide_eq_false hm, wrap_succ hi (by omega)])
    refine nx_keep (s - 1) (by omega) zsm ⟨i + 1, rfl, zsm, by omega, fun j hj => ?_⟩
    by_cases hji : j = i
    ·subst hji; exact fun e => hm e.symm
    ·exact hpre j (by omega)
  ·repeat (first | rw [ko] | rw [kr] | simp -dsimp -implicitDefEqProofs only [go_sem, hks, e8, h1])
   refine ⟨le_push (H2.le.refl _), ⟨_, rfl⟩, _, rfl, by
    refine ⟨fun h => absurd h (by decide), fun hm => ?_⟩
    obtain ⟨j, hj, e⟩ := List.getElem_of_mem hm
    refine absurd ?_ (hpre j (by omega))
    rw [mAt, List.getD_eq_getElem?_getD, List.getElem?_eq_getElem hj]; exact e⟩
theorem containsM_ok {f : Adr} {F : Nat → Adr} {l : List LMerge} {m : LMerge} {g : H2} (hl : l.length ≤ 1048576) : PW Tryz.prog W0 170 [.sl f 2 (rMergeS l), .st (xMerge F m)] g (fun y => y = .raw (.bool (decide (m ∈ l)))) := by
 refine PW.scalar ?_
 refine begins [[0, 1], [0, 3]] Tryz.func170 rfl (rs := [.tmp 4]) rfl rfl ?_
 intro wf
 repeat (first | rw [ko] | rw [kr] | simp -dsimp -implicitDefEqProofs only [go_sem])
 refine pw_intro (indexM_ok (F := F) hl) ?_
 rintro _ n hn' ⟨k, rfl, hk⟩
 have hd : decide (0 ≤ k) = decide (m ∈ l) := decide_eq_decide.2 hk
 repeat (first | rw [ko] | rw [kr] | simp -dsimp -implicitDefEqProofs only [go_sem, hd])
 exact ⟨le_up (le_push (H2.le.refl _)) hn', ⟨_, rfl⟩, rfl⟩
theorem isToken_ok {x k : Int} {h : H2} (hk : 0 ≤ k ∧ k ≤ 1048576) : WC2 Tryz.prog W0 60 [.raw (.int .i64 x), .raw (.int .i64 k)] h (fun v h' => v = .raw (.bool (inI x 0 (255 + k))) ∧ h' = h) := by
 refine begins [[0, 1], [0, 1]] Tryz.func60 rfl (rs := [.tmp 4]) rfl rfl ?_
 intro wf
 have w : IntKind.i64.wrap (255 + k) = 255 + k := by rw [wrap_i64] <;> omega
 repeat (first | rw [ko] | rw [kr] | simp -dsimp -implicitDefEqProofs only [go_sem, w])
 refine wz_intro in_ok ?_
 rintro _ h' ⟨rfl, rfl⟩
 repeat (first | rw [ko] | rw [kr] | simp -dsimp -implicitDefEqProofs only [go_sem])
 exact ⟨rfl, rfl⟩
theorem sizesOf1_ok {l : List LMerge} {i b N : Nat} {v : X} {t : Int} {g : H2} (hb : hg g b .mk = some ⟨1, [v]⟩) (ho : OwnI N g v (outs l i)) (ht : 0 ≤ t ∧ t ≤ 255 + (i : Int)) (hi : i ≤ 1048576) : WC2 Tryz.prog W0 213 [.raw (.int .i64 t), .raw (.pointer (some ⟨b, 0, none⟩))] g (fun y g' => y = .raw (.int .i64 (szOne (outs l i) t)) ∧ g' = g) := by
 refine begins [[0, 1], [0, 1], [], [0, 1]] Tryz.func213 rfl (rs := [.tmp 3]) rfl rfl ?_
 intro wf
 unfold szOne
 by_cases h1 : t < 256
 ·repeat (first | rw [ko] | rw [kr] | simp -dsimp -implicitDefEqProofs only [go_sem, h1])
  exact ⟨by rw [if_pos h1], rfl⟩
 ·have w : IntKind.i64.wrap (t - 256) = t - 256 := by rw [wrap_i64] <;> omega
  obtain ⟨k, hk⟩ := Int.eq_ofNat_of_zero_le (a := t - 256) (by omega)
  rw [hk]
  have w2 : IntKind.i64.wrap (t - 256) = (k : Int) := by rw [w, hk]
  have hk2 : k < (outs l i).length := by rw [outs_len]; omega
  have i0 : (0 : Int) ≤ (k : Int) ∧ (k : Int) < ((outs l i).length : Int) := by omega
  have e0 := get_M hk2
  obtain ⟨q, rfl, q1, q2, q3⟩ : ∃ q, v = .raw (.slice (some ⟨q, 0, none⟩) (outs l i).length (outs l i).length) ∧ N ≤ q ∧ q < hn g .mk ∧ hg g q .mk = some ⟨1, (outs l i).map cI⟩ := by
   obtain ⟨_, h | h⟩ := ho
   ·exact absurd h.2 (by omega)
   ·exact h
  repeat (first | rw [ko] | rw [kr] | simp -dsimp -implicitDefEqProofs only [go_sem, sQ1, h1, hb, w2, i0, q3, e0])
  exact ⟨by rw [if_neg h1, Int.toNat_natCast], rfl⟩
end Go.Bi
end
section
set_option maxRecDepth 20000
namespace Go.Bi
open Go.Proofs
open Go.Ai (wrap_i64)
variable {W0 : World} {P : Program}
set_option maxHeartbeats 4000000
theorem append_iM {D : Nat → Option (List Nat)} {g : H2} {K : KT} {t u U y N : Nat} {xs : List Int} {x : X} {f : Adr} {s : Int} (he : Go.Ai.elt? P t = some (U, 1, y)) (hz : Go.Ai.zr? P U = some [.int .i64 0]) (hu : Go.Ai.cls? P u = some .sl)
    (hx : OwnI N g x xs) (hN0 : N ≤ hn g .mk) (hn0 : (xs.length + 1) * (y + 1) ≤ Go.Ai.most)
    (hk : ∀ v' g', OwnI N g' v' (xs ++ [s]) → hn g .mk ≤ hn g' .mk → (∀ g0 : H2, hn g0 .mk ≤ N → g0.le g → g0.le g') → (∀ c, c < hn g .mk → blockOf x ≠ some c → hg g' c .mk = hg g c .mk) → (∀ c, blockOf v' = some c → hn g .mk ≤ c) → kz K v' g' .mk) :
    az (biz P g .append [t, u] [x, .sl f 1 [[.v (.int .i64 s)]]] .mk) K .mk := by
  have hlen0 := hx.1
  obtain ⟨_, hcase⟩ := hx
  have key : ∀ a, x = .raw (.slice a xs.length xs.length) → biz P g .append [t, u] [x, .sl f 1 [[.v (.int .i64 s)]]] .mk = (match a with
        | none => some (.raw (.slice (some ⟨g.n, 0, none⟩) 1 1), g.push ⟨0 + 1, [cI s]⟩)
        | some a => match g.get a.block with
          | some k => if k.z = 0 + 1 ∧ a.off = 0 then (rdL k.cs 0 (xs.length * (0 + 1))).map fun olds => (.raw (.slice (some ⟨g.n, 0, none⟩) (xs.length + 1) (xs.length + 1)), (g.kill a.block).push ⟨0 + 1, olds ++ [cI s]⟩) else none
          | none => none) := by
    intro a ha
    subst ha
    have hs : srcX g (0 + 1) (.sl f 1 [[.v (.int .i64 s)]]) = some (1, [cI s]) := rfl
    simp only [biz, builtinX, hu, appendX, he, hs, hz]
    rw [if_pos ⟨rfl, hn0, rfl⟩, if_neg (by decide)]
    cases a <;> rfl
  rcases hcase with ⟨rfl, h0⟩ | ⟨b, rfl, hNb, hbn, hb⟩
  · have hxs : xs = [] := List.eq_nil_of_length_eq_zero h0
    subst hxs
    rw [key none rfl]
    refine hk _ _ ⟨rfl, .inr ⟨g.n, rfl, hN0, ?_, ?_⟩⟩ ?_ ?_ ?_ ?_
    · rw [hn_push]; exact Nat.lt_succ_self _
    · rw [hg_push, show (g.n == hn g .mk) = true by simp [hn]]; rfl
    · rw [hn_push]; omega
    · intro g0 _ l0; exact le_push l0
    · intro b' hb' _
      rw [hg_push, show (b' == hn g .mk) = false by simp; omega]; rfl
    · intro c hc; simp only [blockOf, Option.some.injEq] at hc; unfold hn; omega
  · have hb' : g.get b = some ⟨1, xs.map cI⟩ := hb
    rw [key _ rfl]
    simp only [hb']
    rw [if_pos ⟨trivial, trivial⟩, rd_all (by simp)]
    have hne : (b == hn g .mk) = false := zne
    refine hk _ _ ⟨by simp, .inr ⟨g.n, by simp, ?_, ?_, ?_⟩⟩ ?_ ?_ ?_ ?_
    · unfold hn at hbn; omega
    · rw [hn_push, hn_kill]; exact Nat.lt_succ_self _
    · rw [hg_push, hn_kill, show (g.n == hn g .mk) = true by simp [hn]]; simp [hk_t]
    · rw [hn_push, hn_kill]; omega
    · intro g0 hN l0; exact le_push (le_kill l0 (by omega))
    · intro b' hb2 hne'
      have hbb : (b' == b) = false := by
        have : ¬ b' = b := fun e => hne' (by rw [e]; rfl)
        simp [this]
      rw [hg_push, hn_kill, show (b' == hn g .mk) = false by simp; omega, hk_f, hg_kill, hbb]; rfl
    · intro c hc; simp only [blockOf, Option.some.injEq] at hc; unfold hn; omega
theorem ownI_cell {N : Nat} {g : H2} {v : X} {zs : List Int} (o : OwnI N g v zs) : cellsX v = some [v] ∧ okX v = true ∧ isTpX v = false := by
 obtain ⟨_, h⟩ := o
 rcases h with ⟨rfl, _⟩ | ⟨b, rfl, _⟩ <;> exact ⟨rfl, rfl, rfl⟩
theorem ownI_frame {N : Nat} {g g' : H2} {v : X} {zs : List Int} (o : OwnI N g v zs) (hn' : hn g .mk ≤ hn g' .mk) (hk : ∀ c, blockOf v = some c → c < hn g .mk → hg g' c .mk = hg g c .mk) : OwnI N g' v zs := by
 obtain ⟨h0, h⟩ := o
 refine ⟨h0, h.imp_right ?_⟩
 rintro ⟨b, e1, e2, e3, e4⟩
 exact ⟨b, e1, e2, Nat.lt_of_lt_of_le e3 hn', by rw [hk b (by rw [e1]; rfl) e3]; exact e4⟩
theorem sizesOf_ok {f : Adr} {l : List LMerge} {g : H2} (hl : l.length ≤ 16) : WC2 Tryz.prog W0 171 [.sl f 2 (rMergeS l)] g (fun x g' => g.le g' ∧ ∃ v, x = .tp [v, .raw (.bool ((List.range l.length).all (stepOk l)))] ∧ isTpX v = false) := by
 have bad : ∀ i, i < l.length → stepOk l i = false → (List.range l.length).all (stepOk l) = false := fun i hi h => by
  rw [List.all_eq_false]; exact ⟨i, List.mem_range.2 hi, by rw [h]; simp⟩
 refine begins [[0], [0], [0, 4], [0, 4, 5], [4, 5, 11, 12, 13], [4, 5, 11, 12, 13], [4, 5, 6, 7, 11, 12, 13], [], [4, 5, 7, 11, 12, 13], [4, 5, 8, 11, 12, 13], [], [4, 5, 8, 11, 12, 13], [4, 5, 11, 12, 13], [4]] Tryz.func171 rfl (rs := [.tmp 2, .tmp 3]) rfl rfl ?_
 intro wf
 repeat (first | rw [ko] | rw [kr] | simp -dsimp -implicitDefEqProofs only [go_sem, sQ1, sQ3])
 refine lz_keep [4, 5, 11, 12] (fun m e h' => ∃ (i : Nat) (v : X), look e 13 .mk = .raw (.int .i64 (i : Nat)) ∧ m + i = l.length ∧ hg h' (hn g .mk + 1) .mk = some ⟨1, [v]⟩ ∧ OwnI (hn g .mk) h' v (outs l i) ∧ (∀ c, blockOf v = some c → c ≠ hn g .mk + 1) ∧ g.le h' ∧ hn g .mk + 2 ≤ hn h' .mk ∧ ∀ j, j < i → stepOk l j = true) l.length ?_ ?_
 ·exact ⟨0, .raw (.slice (some ⟨hn g .mk, 0, none⟩) 0 0), zsm, by omega, by simp -dsimp -implicitDefEqProofs only [go_sem, hoo], ⟨rfl, .inr ⟨hn g .mk, rfl, Nat.le_refl _, by simp -dsimp -implicitDefEqProofs only [go_sem] <;> omega, by simp -dsimp -implicitDefEqProofs only [go_sem, hoo] <;> rfl⟩⟩, fun c hc => by simp only [blockOf, Option.some.injEq] at hc; omega, le_set (le_push (le_push (H2.le.refl _))) (by omega), by simp -dsimp -implicitDefEqProofs only [go_sem, sQ3] <;> omega, fun j hj => by omega⟩
 ·rintro m e h' hks ⟨i, v, e13, hm, hbox, ow, hap, hle, hnn, hpre⟩
  simp -dsimp -implicitDefEqProofs only [go_sem, sQ1] at hks
  by_cases h1 : (i : Int) < (l.length : Int)
  ·have hi : i < l.length := by omega
   repeat (first | rw [ko] | rw [kr] | simp -dsimp -implicitDefEqProofs only [go_sem, sQ1, sQ2, sQ3, hks, e13, h1, hi, hoo])
   have hmi : l.getD i default = mAt l i := rfl
   rw [hmi]
   have hne : (hn g .mk + 1 == hn h' .mk) = false := zne
   have hb1 : hg (h'.push ⟨2, [.raw (.int .i64 (mAt l i).a), .raw (.int .i64 (mAt l i).b)]⟩) (hn g .mk + 1) .mk = some ⟨1, [v]⟩ := by rw [hg_push, hne]; exact hbox
   have ow1 := OwnI.keep ow (le_push (k := ⟨2, [.raw (.int .i64 (mAt l i).a), .raw (.int .i64 (mAt l i).b)]⟩) (H2.le.refl _))
   have le1 := le_push (k := ⟨2, [.raw (.int .i64 (mAt l i).a), .raw (.int .i64 (mAt l i).b)]⟩) hle
   refine wz_intro (isToken_ok ⟨by omega, by omega⟩) ?_
   rintro _ h2 ⟨rfl, rfl⟩
   cases ha : inI (mAt l i).a 0 (255 + (i : Int))
   ·repeat (first | rw [ko] | rw [kr] | simp -dsimp -implicitDefEqProofs only [go_sem, sQ1])
    exact ⟨le1, _, by rw [bad i hi (by unfold stepOk tokAt; rw [ha]; rfl)], rfl⟩
   repeat (first | rw [ko] | rw [kr] | simp -dsimp -implicitDefEqProofs only [go_sem, sQ1, hoo])
   refine wz_intro (isToken_ok ⟨by omega, by omega⟩) ?_
   rintro _ h2 ⟨rfl, rfl⟩
   cases hb : inI (mAt l i).b 0 (255 + (i : Int))
   ·repeat (first | rw [ko] | rw [kr] | simp -dsimp -implicitDefEqProofs only [go_sem, sQ1])
    exact ⟨le1, _, by rw [bad i hi (by unfold stepOk tokAt; rw [ha, hb]; rfl)], rfl⟩
   have r1 := one_rng hpre (inI_tt ha)
   have r2 := one_rng hpre (inI_tt hb)
   have wn : IntKind.i64.wrap (szOne (outs l i) (mAt l i).a + szOne (outs l i) (mAt l i).b) = nAt l i := by unfold nAt; rw [wrap_i64] <;> omega
   repeat (first | rw [ko] | rw [kr] | simp -dsimp -implicitDefEqProofs only [go_sem, sQ1, hoo])
   refine dq_intro [(0, []), (1, []), (2, []), (4, []), (5, []), (6, []), (3, [6]), (7, []), (8, []), (9, [])] (by kernel_rfl) ?_
   repeat (first | rw [ko] | rw [kr] | simp -dsimp -implicitDefEqProofs only [go_sem, sQ1, hoo])
   refine wz_intro (sizesOf1_ok hb1 ow1 (inI_tt ha) (by omega)) ?_
   rintro _ h2 ⟨rfl, rfl⟩
   rw [kq]
   refine ⟨by simp -dsimp -implicitDefEqProofs only [go_sem, hoo], ?_⟩
   repeat (first | rw [ko] | rw [kr] | simp -dsimp -implicitDefEqProofs only [go_sem])
   refine wz_intro (sizesOf1_ok hb1 ow1 (inI_tt hb) (by omega)) ?_
   rintro _ h2 ⟨rfl, rfl⟩
   repeat (first | rw [ko] | rw [kr] | simp -dsimp -implicitDefEqProofs only [go_sem, sQ1, wn])
   by_cases hn64 : 64 < nAt l i
   ·repeat (first | rw [ko] | rw [kr] | simp -dsimp -implicitDefEqProofs only [go_sem, hn64])
    exact ⟨le1, _, by rw [bad i hi (by unfold stepOk; rw [decide_eq_false (by omega : ¬ nAt l i ≤ 64), Bool.and_false])], rfl⟩
   repeat (first | rw [ko] | rw [kr] | simp -dsimp -implicitDefEqProofs only [go_sem, sQ1, sQ3, hn64, hb1])
   have hst : stepOk l i = true := by
    unfold stepOk tokAt
    rw [ha, hb, decide_eq_true (by omega : nAt l i ≤ 64)]; rfl
   refine append_iM (P := Tryz.prog) (D := fun _ => none) (N := hn g .mk) Go.Ai.ty_el25 Go.Ai.ty_zr3 Go.Ai.ty_cl25 (OwnI.keep ow1 (le_up1 (H2.le.refl _))) (by rw [hn_up, hn_push]; omega) (by rw [outs_len]; have : Go.Ai.most = 1099511627776 := rfl; omega) ?_
   intro v4 g4 ow4 nn4 le4 on4 ap4
   simp only [hn_up, hn_push] at nn4 ap4
   have hbox4 : hg g4 (hn g .mk + 1) .mk = some ⟨1, [v]⟩ := (on4 _ (by rw [hn_up, hn_push]; omega) (fun e => hap _ e rfl)).trans hb1
   have oc := ownI_cell ow4
   repeat (first | rw [ko] | rw [kr] | simp -dsimp -implicitDefEqProofs only [go_sem, sQ1, hbox4, oc, hoo, wrap_succ hi (by omega)])
   refine nx_keep (m - 1) (by omega) zsm ⟨i + 1, v4, zsm, by omega, by simp -dsimp -implicitDefEqProofs only [go_sem, hoo], ?_, fun c hc => by have := ap4 c hc; omega, le_set (le4 g (Nat.le_refl _) (le_up1 le1)) (by omega), by simp -dsimp -implicitDefEqProofs only [go_sem] <;> omega, fun j hj => ?_⟩
   ·rw [outs]
    exact ownI_frame ow4 (by rw [hn_set]; omega) fun c hc _ => by
     have := ap4 c hc
     rw [hg_set, show (c == hn g .mk + 1) = false by simp; omega]; rfl
   ·by_cases hji : j = i
    ·subst hji; exact hst
    ·exact hpre j (by omega)
  ·repeat (first | rw [ko] | rw [kr] | simp -dsimp -implicitDefEqProofs only [go_sem, sQ1, hks, e13, h1, hbox])
   have oc := ownI_cell ow
   have hall : (List.range l.length).all (stepOk l) = true := by
    rw [List.all_eq_true]; intro j hj; exact hpre j (by have := List.mem_range.1 hj; omega)
   rw [hall]
   repeat (first | rw [ko] | rw [kr] | simp -dsimp -implicitDefEqProofs only [go_sem, oc])
   exact ⟨hle, v, rfl, oc.2.2⟩
end Go.Bi
end
section
set_option maxRecDepth 20000
namespace Go.Bi
open Go.Proofs
open Go.Ai (wrap_i64)
variable {W0 : World} {P : Program}
set_option maxHeartbeats 4000000
theorem rM_take {l : List LMerge} {i : Nat} : (rMergeS l).take i = rMergeS (l.take i) := by simp [rMergeS, List.map_take]
theorem implMergesOk_ok {f : Adr} {l : List LMerge} {g : H2} (hl0 : l.length ≤ 1048576) : PW Tryz.prog W0 119 [.sl f 2 (rMergeS l)] g (fun y => y = .raw (.bool (mergesB l))) := by
 refine PW.scalar ?_
 refine begins [[0], [0], [], [0], [0, 10, 11, 12], [0, 10, 11, 12], [0, 3, 4, 10, 11, 12], [], [0, 10, 11, 12], [0], [6]] Tryz.func119 rfl (rs := [.tmp 2]) rfl rfl ?_
 intro wf
 by_cases h16 : (16 : Int) < (l.length : Int)
 ·repeat (first | rw [ko] | rw [kr] | simp -dsimp -implicitDefEqProofs only [go_sem, h16])
  exact ⟨H2.le.refl _, ⟨_, rfl⟩, by rw [mergesB_len (by omega)]⟩
 repeat (first | rw [ko] | rw [kr] | simp -dsimp -implicitDefEqProofs only [go_sem, sQ1, h16])
 refine lz_keep [0, 10, 11] (fun m e h' => ∃ (i : Nat), look e 12 .mk = .raw (.int .i64 (i : Nat)) ∧ m + i = l.length ∧ g.le h' ∧ ∀ j, j < i → dupAt l j = false) l.length ?_ ?_
 ·exact ⟨0, zsm, by omega, H2.le.refl _, fun j hj => by omega⟩
 ·rintro m e h' hks ⟨i, e12, hm, hle, hpre⟩
  simp -dsimp -implicitDefEqProofs only [go_sem, sQ1] at hks
  by_cases h1 : (i : Int) < (l.length : Int)
  ·have hi : i < l.length := by omega
   have hi0 : (0 : Int) ≤ (i : Int) := by omega
   have hi1 : (i : Int) ≤ (l.length : Int) := by omega
   repeat (first | rw [ko] | rw [kr] | simp -dsimp -implicitDefEqProofs only [go_sem, sQ1, sQ2, sQ3, hks, e12, h1, hi, hoo])
   refine dq_intro [(0, []), (1, []), (2, []), (3, []), (4, [])] (by kernel_rfl) ?_
   repeat (first | rw [ko] | rw [kr] | simp -dsimp -implicitDefEqProofs only [go_sem, sQ1, hoo, hi0, hi1, rM_take, Nat.sub_zero, List.drop_zero])
   refine pw_intro (containsM_ok (F := fun _ _ => undef) (m := l.getD i default) (by rw [List.length_take]; omega)) ?_
   rintro _ n hn' rfl
   have hle2 := le_up (le_push (k := ⟨2, [.raw (.int .i64 (l.getD i default).a), .raw (.int .i64 (l.getD i default).b)]⟩) hle) hn'
   have hdd : decide (l.getD i default ∈ l.take i) = dupAt l i := rfl
   rw [hdd]
   cases hd : dupAt l i
   ·repeat (first | rw [ko] | rw [kr] | simp -dsimp -implicitDefEqProofs only [go_sem, sQ1, wrap_succ hi (by omega)])
    refine nx_keep (m - 1) (by omega) zsm ⟨i + 1, zsm, by omega, hle2, fun j hj => ?_⟩
    by_cases hji : j = i
    ·subst hji; exact hd
    ·exact hpre j (by omega)
   ·repeat (first | rw [ko] | rw [kr] | simp -dsimp -implicitDefEqProofs only [go_sem])
    exact ⟨hle2, ⟨_, rfl⟩, by rw [mergesB_bad hi (by rw [hd, Bool.not_true, Bool.and_false])]⟩
  ·repeat (first | rw [ko] | rw [kr] | simp -dsimp -implicitDefEqProofs only [go_sem, sQ1, hks, e12, h1])
   refine wz_intro (sizesOf_ok (by omega)) ?_
   rintro _ g2 ⟨l2, v, rfl, hv⟩
   repeat (first | rw [ko] | rw [kr] | simp -dsimp -implicitDefEqProofs only [go_sem, sQ1])
   refine ⟨hle.trans l2, ⟨_, rfl⟩, ?_⟩
   have hd : ∀ j, j < l.length → dupAt l j = false := fun j hj => hpre j (by omega)
   congr 2
   unfold mergesB
   rw [decide_eq_true (by omega : l.length ≤ 16), Bool.true_and]
   cases ha : (List.range l.length).all (stepOk l)
   ·symm
    rw [List.all_eq_false] at ha ⊢
    obtain ⟨j, h3, h4⟩ := ha
    refine ⟨j, h3, ?_⟩
    simp only [Bool.not_eq_true] at h4
    rw [h4]; simp
   ·symm
    rw [List.all_eq_true] at ha ⊢
    intro j hj
    rw [ha j hj, hd j (List.mem_range.1 hj)]; rfl
theorem specMergesOk_ok {f : Adr} {l : List LMerge} {g : H2} (hl0 : l.length ≤ 1048576) : PW Tryz.prog W0 99 [.sl f 2 (rMergeS l)] g (fun y => y = .raw (.bool (mergesB l))) := by
  have hT : Go.Ai.intS? Tryz.prog 165 = some 2 := by kernel_rfl
  refine PW.scalar ?_
  refine begins [[0], [0], [], [0], [0, 3], [0, 3, 4], [0, 3, 4], [0, 3, 4], [], [0, 3, 4], [0, 3, 4, 5], [0, 3, 4, 5, 6], [0, 3, 4, 5, 6], [0, 3, 4, 5, 6], [0, 3, 4, 5, 6, 7], [0, 3, 4, 5, 6], [0, 3, 4, 5, 6, 7], [0, 3, 4, 5, 6], [0, 3, 4, 5, 6, 7], [0, 3, 4, 5], [0, 3, 4, 5, 8], [0, 3, 4, 5, 8], [0, 3, 4, 5, 8], [], [0, 3, 4, 5], [], [0, 3, 4, 5], []] Tryz.func99 rfl (rs := [.tmp 2]) rfl rfl ?_
  intro wf
  by_cases h16 : (16 : Int) < (l.length : Int)
  · repeat (first | rw [ko] | rw [kr] | simp -dsimp -implicitDefEqProofs only [go_sem, h16])
    exact ⟨H2.le.refl _, ⟨_, rfl⟩, by rw [mergesB_len (by omega)]⟩
  repeat (first | rw [ko] | rw [kr] | simp -dsimp -implicitDefEqProofs only [go_sem, sQ1, sQ3, h16])
  refine lz_keep [0] (fun m e h' => ∃ (i : Nat) (v : X), look e 4 .mk = .raw (.int .i64 (i : Nat)) ∧ look e 3 .mk = v ∧ m + i = l.length ∧ g.le h' ∧ OwnI (hn g .mk) h' v (outs l i) ∧ ∀ j, j < i → (stepOk l j && !dupAt l j) = true) l.length ?_ ?_
  · exact ⟨0, _, zsm, by simp -dsimp -implicitDefEqProofs only [go_sem] <;> rfl, by omega, le_push (H2.le.refl _), Own.new (Nat.le_refl _) rfl, fun j hj => by omega⟩
  · rintro m e h' hks ⟨i, v, e4, e3, hm, hle, ow, hpre⟩
    simp -dsimp -implicitDefEqProofs only [go_sem] at hks
    have hst : ∀ j, j < i → stepOk l j = true := fun j hj => by have := hpre j hj; rw [Bool.and_eq_true] at this; exact this.1
    by_cases h1 : (i : Int) < (l.length : Int)
    · have hi : i < l.length := by omega
      have w1 : IntKind.i64.wrap (255 + (i : Int)) = 255 + (i : Int) := by rw [wrap_i64] <;> omega
      have hmi : l.getD i default = mAt l i := rfl
      repeat (first | rw [ko] | rw [kr] | simp -dsimp -implicitDefEqProofs only [go_sem, sQ1, sQ2, sQ3, hks, e4, e3, h1, hi, hoo, w1])
      rw [hmi]
      refine wz_intro l01In_ok ?_
      rintro _ hx ⟨rfl, hxe⟩
      rw [hxe]
      clear hxe hx
      cases ha : inI (mAt l i).a 0 (255 + (i : Int))
      · repeat (first | rw [ko] | rw [kr] | simp -dsimp -implicitDefEqProofs only [go_sem, sQ1])
        exact ⟨hle, ⟨_, rfl⟩, by rw [mergesB_bad hi (by unfold stepOk tokAt; rw [ha]; rfl)]⟩
      repeat (first | rw [ko] | rw [kr] | simp -dsimp -implicitDefEqProofs only [go_sem, sQ1, sQ2, sQ3, hi, hoo, w1, hmi])
      refine wz_intro l01In_ok ?_
      rintro _ hx ⟨rfl, hxe⟩
      rw [hxe]
      clear hxe hx
      cases hb : inI (mAt l i).b 0 (255 + (i : Int))
      · repeat (first | rw [ko] | rw [kr] | simp -dsimp -implicitDefEqProofs only [go_sem, sQ1])
        exact ⟨hle, ⟨_, rfl⟩, by rw [mergesB_bad hi (by unfold stepOk tokAt; rw [ha, hb]; rfl)]⟩
      repeat (first | rw [ko] | rw [kr] | simp -dsimp -implicitDefEqProofs only [go_sem, sQ1])
      have r1 := one_rng hst (inI_tt ha)
      have r2 := one_rng hst (inI_tt hb)
      have hat : ∀ t : Int, 0 ≤ t ∧ t ≤ 255 + (i : Int) → ¬ t < 256 → ∃ (q k : Nat), v = .raw (.slice (some ⟨q, 0, none⟩) i i) ∧ hg h' q .mk = some ⟨1, (outs l i).map cI⟩ ∧ IntKind.i64.wrap (t - 256) = (k : Int) ∧ k < i ∧ latM (outs l i) k = szOne (outs l i) t := fun t ht hn => by
        obtain ⟨k, hk⟩ := Int.eq_ofNat_of_zero_le (a := t - 256) (by omega)
        obtain ⟨_, h | ⟨q, q1, q2, q3, q4⟩⟩ := ow
        · rw [outs_len] at h; omega
        · rw [outs_len] at q1
          refine ⟨q, k, q1, q4, by rw [wrap_i64] <;> omega, by omega, ?_⟩
          unfold szOne
          rw [if_neg hn, hk, Int.toNat_natCast]
      let nk : Nat → Int := fun k => if k = 0 then 0 else if k = 1 then szOne (outs l i) (mAt l i).a else nAt l i
      refine lz_join 2 [0, 3, 4] (fun m e h2 => ∃ k : Nat, look e 6 .mk = .raw (.int .i64 (k : Nat)) ∧ look e 5 .mk = .raw (.int .i64 (nk k)) ∧ m + k = 2 ∧ h2 = h') (fun e h2 => look e 5 .mk = .raw (.int .i64 (nAt l i)) ∧ h2 = h') 2 ?_ ?_ ?_
      · exact ⟨0, zsm, by simp -dsimp -implicitDefEqProofs only [go_sem] <;> rfl, by omega, rfl⟩
      · rintro m2 e2 h2 hks2 ⟨k, e6, e5, hm2, hxe⟩
        simp -dsimp -implicitDefEqProofs only [go_sem, sQ1] at hks2
        rw [hxe]
        clear hxe
        by_cases hk2 : (k : Int) < 2
        · have hk3 : k = 0 ∨ k = 1 := by omega
          rcases hk3 with rfl | rfl
          · have z1 : ¬ (0 : Int) = 1 := by omega
            replace hk2 : (0 : Int) < 2 := by omega
            have w2 : IntKind.i64.wrap ((0 : Int) + 1) = 1 := by decide
            have w2' : IntKind.i64.wrap (1 : Int) = 1 := by decide
            by_cases h256 : (mAt l i).a < 256
            · have wa : IntKind.i64.wrap (nk 0 + 1) = nk 1 := by show IntKind.i64.wrap (0 + 1) = szOne _ _; unfold szOne; rw [if_pos h256]; decide
              repeat (first | rw [ko] | rw [kr] | simp -dsimp -implicitDefEqProofs only [go_sem, sQ1, sQ2, sQ3, hks2, e6, e5, hk2, hi, hmi, z1, h256, wa, w2])
              exact nx_keep (m2 - 1) (by omega) zsm ⟨1, (by simp -dsimp -implicitDefEqProofs only [go_sem] <;> rfl), (by simp -dsimp -implicitDefEqProofs only [go_sem, sQ1] <;> rfl), by omega, rfl⟩
            · obtain ⟨q, k, rfl, q1, q2, q3, q4⟩ := hat _ (inI_tt ha) h256
              have wa : IntKind.i64.wrap (nk 0 + latM (outs l i) k) = nk 1 := by show IntKind.i64.wrap (0 + _) = szOne _ _; rw [q4, wrap_i64] <;> omega
              have i0 : (0 : Int) ≤ (k : Int) ∧ (k : Int) < (i : Int) := by omega
              have e0 := get_M (l := outs l i) (i := k) (by rw [outs_len]; exact q3)
              repeat (first | rw [ko] | rw [kr] | simp -dsimp -implicitDefEqProofs only [go_sem, sQ1, sQ2, sQ3, hks2, e6, e5, hk2, hi, hmi, z1, h256, q2, q1, i0, e0, wa, w2])
              exact nx_keep (m2 - 1) (by omega) zsm ⟨1, (by simp -dsimp -implicitDefEqProofs only [go_sem] <;> rfl), (by simp -dsimp -implicitDefEqProofs only [go_sem, sQ1] <;> rfl), by omega, rfl⟩
          · have z1 : ((1 : Nat) : Int) = 1 := rfl
            have w2 : IntKind.i64.wrap ((1 : Int) + 1) = 2 := by decide
            have w2' : IntKind.i64.wrap (2 : Int) = 2 := by decide
            by_cases h256 : (mAt l i).b < 256
            · have wa : IntKind.i64.wrap (nk 1 + 1) = nk 2 := by
                show IntKind.i64.wrap (szOne _ _ + 1) = szOne _ _ + szOne _ _
                have : szOne (outs l i) (mAt l i).b = 1 := by unfold szOne; rw [if_pos h256]
                rw [this, wrap_i64] <;> omega
              repeat (first | rw [ko] | rw [kr] | simp -dsimp -implicitDefEqProofs only [go_sem, sQ1, sQ2, sQ3, sQ6, hks2, e6, e5, hi, hmi, z1, h256, wa, w2])
              exact nx_keep (m2 - 1) (by omega) zsm ⟨2, (by simp -dsimp -implicitDefEqProofs only [go_sem] <;> rfl), (by simp -dsimp -implicitDefEqProofs only [go_sem, sQ1] <;> rfl), by omega, rfl⟩
            · obtain ⟨q, k, rfl, q1, q2, q3, q4⟩ := hat _ (inI_tt hb) h256
              have wa : IntKind.i64.wrap (nk 1 + latM (outs l i) k) = nk 2 := by show IntKind.i64.wrap (szOne _ _ + _) = szOne _ _ + szOne _ _; rw [q4, wrap_i64] <;> omega
              have i0 : (0 : Int) ≤ (k : Int) ∧ (k : Int) < (i : Int) := by omega
              have e0 := get_M (l := outs l i) (i := k) (by rw [outs_len]; exact q3)
              repeat (first | rw [ko] | rw [kr] | simp -dsimp -implicitDefEqProofs only [go_sem, sQ1, sQ2, sQ3, sQ6, hks2, e6, e5, hi, hmi, z1, h256, q2, q1, i0, e0, wa, w2])
              exact nx_keep (m2 - 1) (by omega) zsm ⟨2, (by simp -dsimp -implicitDefEqProofs only [go_sem] <;> rfl), (by simp -dsimp -implicitDefEqProofs only [go_sem, sQ1] <;> rfl), by omega, rfl⟩
        · have : k = 2 := by omega
          subst this
          repeat (first | rw [ko] | rw [kr] | simp -dsimp -implicitDefEqProofs only [go_sem, hks2, e6, e5, hk2])
          exact out_keep zsm ⟨by simp -dsimp -implicitDefEqProofs only [go_sem, sQ1] <;> rfl, rfl⟩
      · rintro e2 h2 hks2 ⟨e5, hxe⟩
        simp -dsimp -implicitDefEqProofs only [go_sem, sQ1] at hks2
        rw [hxe]
        clear hxe
        repeat (first | rw [ko] | rw [kr] | simp -dsimp -implicitDefEqProofs only [go_sem, hks2, e5])
        refine lz_join 4 [0, 3, 4, 5] (fun m e h2 => ∃ k : Nat, look e 8 .mk = .raw (.int .i64 (k : Nat)) ∧ m + k = i ∧ h2 = h' ∧ ∀ j, j < k → mAt l j ≠ mAt l i) (fun e h2 => h2 = h' ∧ dupAt l i = false) i ?_ ?_ ?_
        · exact ⟨0, zsm, by omega, rfl, fun j hj => by omega⟩
        · rintro m3 e3' h3 hks3 ⟨k, e8, hm3, hxe, hne⟩
          simp -dsimp -implicitDefEqProofs only [go_sem, sQ1] at hks3
          rw [hxe]
          clear hxe
          by_cases hk : (k : Int) < (i : Int)
          · have hkl : k < l.length := by omega
            have hE := eq_merge (x := l.getD k default) (y := l.getD i default) hT
            repeat (first | rw [ko] | rw [kr] | simp -dsimp -implicitDefEqProofs only [go_sem, sQ1, hks3, e8, hk])
            refine dq_intro [(0, []), (1, []), (2, []), (3, []), (4, []), (5, []), (6, []), (7, []), (8, [])] (by kernel_rfl) ?_
            by_cases heq : l.getD k default = l.getD i default
            · repeat (first | rw [ko] | rw [kr] | simp -dsimp -implicitDefEqProofs only [go_sem, sQ1, sQ2, sQ3, hkl, hi, hoo, hE, decide_eq_true heq])
              refine ⟨hle, ⟨_, rfl⟩, by rw [mergesB_bad hi]; rw [show dupAt l i = true from decide_eq_true ?_, Bool.not_true, Bool.and_false]; rw [mAt, ← heq, List.mem_take_iff_getElem]; exact ⟨k, by omega, by rw [List.getD_eq_getElem?_getD, List.getElem?_eq_getElem hkl]; rfl⟩⟩
            · repeat (first | rw [ko] | rw [kr] | simp -dsimp -implicitDefEqProofs only [go_sem, sQ1, sQ2, sQ3, hkl, hi, hoo, hE, decide_eq_false heq, wrap_succ hkl (by omega)])
              refine nx_keep (m3 - 1) (by omega) zsm ⟨k + 1, zsm, by omega, rfl, fun j hj => ?_⟩
              by_cases hjk : j = k
              · subst hjk; exact heq
              · exact hne j (by omega)
          · repeat (first | rw [ko] | rw [kr] | simp -dsimp -implicitDefEqProofs only [go_sem, sQ1, hks3, e8, hk])
            refine out_keep zsm ⟨rfl, decide_eq_false fun hm => ?_⟩
            rw [List.mem_take_iff_getElem] at hm
            obtain ⟨j, hj, e⟩ := hm
            refine hne j (by omega) ?_
            rw [← e, mAt, List.getD_eq_getElem?_getD, List.getElem?_eq_getElem (by omega)]; rfl
        · rintro e4' h4 hks4 ⟨hxe, hdup⟩
          simp -dsimp -implicitDefEqProofs only [go_sem, sQ1] at hks4
          rw [hxe]
          clear hxe
          by_cases h64 : 64 < nAt l i
          · repeat (first | rw [ko] | rw [kr] | simp -dsimp -implicitDefEqProofs only [go_sem, hks4, h64])
            exact ⟨hle, ⟨_, rfl⟩, by rw [mergesB_bad hi (by unfold stepOk; rw [decide_eq_false (by omega : ¬ nAt l i ≤ 64), Bool.and_false]; rfl)]⟩
          have hsi : stepOk l i = true := by
            unfold stepOk tokAt
            rw [ha, hb, decide_eq_true (by omega : nAt l i ≤ 64)]; rfl
          repeat (first | rw [ko] | rw [kr] | simp -dsimp -implicitDefEqProofs only [go_sem, sQ1, sQ3, hks4, h64])
          refine append_iM (P := Tryz.prog) (D := fun _ => none) (N := hn g .mk) Go.Ai.ty_el25 Go.Ai.ty_zr3 Go.Ai.ty_cl25 (OwnI.keep ow (le_up1 (H2.le.refl _))) (by rw [hn_up]; have := hle.1; omega) (by rw [outs_len]; have : Go.Ai.most = 1099511627776 := rfl; omega) ?_
          intro v5 g5 ow5 nn5 le5 on5 ap5
          repeat (first | rw [ko] | rw [kr] | simp -dsimp -implicitDefEqProofs only [go_sem, sQ1, wrap_succ hi (by omega)])
          refine nx_keep (m - 1) (by omega) zsm ⟨i + 1, v5, zsm, zsm, by omega, le5 g (Nat.le_refl _) (le_up1 hle), ow5, fun j hj => ?_⟩
          by_cases hji : j = i
          · subst hji; rw [hsi, hdup]; rfl
          · exact hpre j (by omega)
    · repeat (first | rw [ko] | rw [kr] | simp -dsimp -implicitDefEqProofs only [go_sem, sQ1, hks, e4, e3, h1])
      exact ⟨hle, ⟨_, rfl⟩, by rw [mergesB_ok (by omega) fun j hj => hpre j (by omega)]⟩
end Go.Bi
end
section
set_option maxRecDepth 20000
namespace Go.Bi
open Go.Proofs
open Go.Ai (wrap_i64 Heap)
variable {W0 : World} {P : Program}
set_option maxHeartbeats 4000000
def embB (d : Int) (r : List Int) : Bool := decide ((r.length : Int) = d) && allI r (-127) 127
def vocI (m : LModel) : Int := 256 + (m.merges.length : Int)
def modelB (m : LModel) : Bool :=
 widthB m.dim && (inI m.heads 1 2 && (mergesB m.merges && (decide ((m.embed.length : Int) = vocI m) && (inI m.layers.length 1 2 && (!(m.embed.any fun r => !embB m.dim r) && (!(m.layers.any fun l => !layB l m.dim) &&
  (gainB m.gainEnd m.dim && (withB m.head m.dim (vocI m) && turnsB m.turns m.context (Int.tdiv (Int.tdiv m.dim m.heads) 2)))))))))
def smallMod (m : LModel) : Prop := m.merges.length ≤ 1048576 ∧ smallL m.embed ∧ m.layers.length ≤ 1048576 ∧ (∀ i, i < m.layers.length → smallY (m.layers.getD i default)) ∧ m.gainEnd.length ≤ 1048576 ∧ smallM m.head ∧ smallL m.turns.cos ∧ smallL m.turns.sin
theorem indexY_ok {F : FuncId} {p : LLayer → Bool} {caps : List Value} {f : Adr} {ss : List LLayer} {h : H2} (hn0 : ss.length ≤ 1048576)
  (hf : ∀ (i : Nat), i < ss.length → ∀ (F' : Nat → Adr) (h' : H2), h.le h' → PW Tryz.prog W0 F ([.st (xLayer F' (ss.getD i default))] ++ caps.map .raw) h' (fun v => v = .raw (.bool (p (ss.getD i default))))) :
  PW Tryz.prog W0 175 [.sl f 32 (rLayerS ss), .raw (.func (.func F) #[] caps.toArray)] h (fun v => ∃ k : Int, v = .raw (.int .i64 k) ∧ decide (0 ≤ k) = ss.any p) := by
 refine PW.scalar ((?_ : WC2 _ _ _ _ _ fun v g' => h.le g' ∧ ∃ k : Int, v = .raw (.int .i64 k) ∧ decide (0 ≤ k) = ss.any p).mono fun v g' ⟨h1, k, h2, h3⟩ => ⟨h1, ⟨_, h2⟩, k, h2, h3⟩)
 refine begins [[0, 1], [0, 1], [0, 1, 7, 8], [0, 1, 7, 8], [0, 1, 5, 7, 8], [5], [0, 1, 7, 8], []] Tryz.func175 rfl (rs := [.tmp 4]) rfl rfl ?_
 intro wf
 repeat (first | rw [ko] | rw [kr] | simp -dsimp -implicitDefEqProofs only [go_sem])
 refine lz_keep [0, 1, 7] (fun m e h' => h.le h' ∧ ∃ k : Nat, look e 8 .mk = .raw (.int .i64 k) ∧ m + k = ss.length ∧ ∀ j : Nat, j < k → p (ss.getD j default) = false) ss.length ?_ ?_
 ·exact ⟨H2.le.refl _, 0, zsm, by omega, fun j hj => by omega⟩
 ·rintro m e h' hks ⟨hle, k, e8, hk, hpre⟩
  simp -dsimp -implicitDefEqProofs only [go_sem, sQ1] at hks
  repeat (first | rw [ko] | rw [kr] | simp -dsimp -implicitDefEqProofs only [go_sem, hks, e8])
  refine gz_dec (fun h2 => ?_) (fun h2 => ?_)
  ·have h3 : k < ss.length := by omega
   repeat (first | rw [ko] | rw [kr] | simp -dsimp -implicitDefEqProofs only [go_sem, sQ1, sQ2, sQ3, h3])
   refine pw_intro (hf k h3 (fun j => under (under f k) j) _ hle) ?_
   rintro _ n hn1 rfl
   repeat (first | rw [ko] | rw [kr] | simp -dsimp -implicitDefEqProofs only [go_sem])
   refine gz_intro (fun h4 => ?_) (fun h4 => ?_)
   ·repeat (first | rw [ko] | rw [kr] | simp -dsimp -implicitDefEqProofs only [go_sem, sQ1])
    exact ⟨le_up hle hn1, _, rfl, by rw [any_getD h3 h4]; simp⟩
   ·repeat (first | rw [ko] | rw [kr] | simp -dsimp -implicitDefEqProofs only [go_sem, sQ1, wrap_succ h3 (by omega)])
    refine nx_keep (m - 1) (by omega) zsm ⟨le_up hle hn1, k + 1, zsm, by omega, fun j hj => ?_⟩
    by_cases hji : j = k
    ·subst hji; exact h4
    ·exact hpre j (by omega)
  ·repeat (first | rw [ko] | rw [kr] | simp -dsimp -implicitDefEqProofs only [go_sem])
   exact ⟨hle, _, rfl, by rw [any_none fun j hj => hpre j (by omega)]; rfl⟩
theorem containsY_ok {F : FuncId} {p : LLayer → Bool} {caps : List Value} {f : Adr} {ss : List LLayer} {h : H2} (hn0 : ss.length ≤ 1048576)
  (hf : ∀ (i : Nat), i < ss.length → ∀ (F' : Nat → Adr) (h' : H2), h.le h' → PW Tryz.prog W0 F ([.st (xLayer F' (ss.getD i default))] ++ caps.map .raw) h' (fun v => v = .raw (.bool (p (ss.getD i default))))) :
  PW Tryz.prog W0 124 [.sl f 32 (rLayerS ss), .raw (.func (.func F) #[] caps.toArray)] h (fun v => v = .raw (.bool (ss.any p))) := by
 refine PW.scalar ?_
 refine begins [[0, 1], [0, 1]] Tryz.func124 rfl (rs := [.tmp 4]) rfl rfl ?_
 intro wf
 repeat (first | rw [ko] | rw [kr] | simp -dsimp -implicitDefEqProofs only [go_sem])
 refine pw_intro (indexY_ok hn0 hf) ?_
 rintro _ n hn1 ⟨k, rfl, hk⟩
 repeat (first | rw [ko] | rw [kr] | simp -dsimp -implicitDefEqProofs only [go_sem, hk])
 exact ⟨le_up (H2.le.refl _) hn1, ⟨_, rfl⟩, rfl⟩
theorem emb1_ok {f : Adr} {r : List Int} {b : Nat} {d : Int} {ks : List X} {h : H2} (hb : hg h b .mk = some ⟨14, .raw (.int .i64 d) :: ks⟩) (hl : r.length ≤ 1048576) : PW Tryz.prog W0 122 [.sl f 1 (ints r), .raw (.pointer (some ⟨b, 0, none⟩))] h (fun y => y = .raw (.bool (!embB d r))) := by
 refine PW.scalar ?_
 refine begins [[0, 1], [0, 1]] Tryz.func122 rfl (rs := [.tmp 3]) rfl rfl ?_
 intro wf
 by_cases h1 : (r.length : Int) = d
 ·have d1 : decide ((r.length : Int) = d) = true := decide_eq_true h1
  have e1 : decide (¬ (r.length : Int) = d) = false := decide_eq_false (fun h => h h1)
  repeat (first | rw [ko] | rw [kr] | simp -dsimp -implicitDefEqProofs only [go_sem, sQ1, hb, e1])
  refine pw_intro (allIn_ok (by omega)) ?_
  rintro _ n1 hn1 rfl
  repeat (first | rw [ko] | rw [kr] | simp -dsimp -implicitDefEqProofs only [go_sem])
  exact ⟨le_up (H2.le.refl _) hn1, ⟨_, rfl⟩, by rw [embB, d1]; rfl⟩
 ·have d1 : decide ((r.length : Int) = d) = false := decide_eq_false h1
  have e1 : decide (¬ (r.length : Int) = d) = true := decide_eq_true h1
  repeat (first | rw [ko] | rw [kr] | simp -dsimp -implicitDefEqProofs only [go_sem, hb, e1])
  exact ⟨H2.le.refl _, ⟨_, rfl⟩, by rw [embB, d1]; rfl⟩
theorem lay1_ok {F : Nat → Adr} {l : LLayer} {b : Nat} {d : Int} {ks : List X} {h : H2} (hbn : b < hn h .mk) (hb : hg h b .mk = some ⟨14, .raw (.int .i64 d) :: ks⟩) (hl : smallY l) : PW Tryz.prog W0 125 [.st (xLayer F l), .raw (.pointer (some ⟨b, 0, none⟩))] h (fun y => y = .raw (.bool (!layB l d))) := by
 refine PW.scalar ?_
 refine begins [[0, 1], [1, 2]] Tryz.func125 rfl (rs := [.tmp 3]) rfl rfl ?_
 intro wf
 have hne : (b == hn h .mk) = false := zne
 repeat (first | rw [ko] | rw [kr] | simp -dsimp -implicitDefEqProofs only [go_sem, hb, hne, hoo])
 refine pw_intro (implLayer_ok (F := F) hl) ?_
 rintro _ n1 hn1 rfl
 rw [hn_push] at hn1
 repeat (first | rw [ko] | rw [kr] | simp -dsimp -implicitDefEqProofs only [go_sem])
 exact ⟨le_up (le_push (H2.le.refl _)) (by rw [hn_push]; exact hn1), ⟨_, rfl⟩, rfl⟩
theorem voc1_ok {F : Nat → Adr} {m : LModel} {h : H2} (hl : m.merges.length ≤ 1048576) : PW Tryz.prog W0 120 [.st (xModel F m)] h (fun y => y = .raw (.int .i64 (vocI m))) := by
 refine PW.scalar ?_
 refine begins [[0], [1]] Tryz.func120 rfl (rs := [.tmp 2]) rfl rfl ?_
 intro wf
 have w1 : IntKind.i64.wrap (256 + (m.merges.length : Int)) = 256 + (m.merges.length : Int) := by rw [wrap_i64] <;> omega
 repeat (first | rw [ko] | rw [kr] | simp -dsimp -implicitDefEqProofs only [go_sem, hoo, w1])
 exact ⟨le_push (H2.le.refl _), ⟨_, rfl⟩, rfl⟩
theorem voc2_ok {F : Nat → Adr} {m : LModel} {h : H2} (hl : m.merges.length ≤ 1048576) : PW Tryz.prog W0 100 [.st (xModel F m)] h (fun y => y = .raw (.int .i64 (vocI m))) := by
 refine PW.scalar ?_
 refine begins [[0], [1]] Tryz.func100 rfl (rs := [.tmp 2]) rfl rfl ?_
 intro wf
 have w1 : IntKind.i64.wrap (256 + (m.merges.length : Int)) = 256 + (m.merges.length : Int) := by rw [wrap_i64] <;> omega
 repeat (first | rw [ko] | rw [kr] | simp -dsimp -implicitDefEqProofs only [go_sem, hoo, w1])
 exact ⟨le_push (H2.le.refl _), ⟨_, rfl⟩, rfl⟩
end Go.Bi
end
section
set_option maxRecDepth 20000
namespace Go.Bi
open Go.Proofs
open Go.Ai (wrap_i64 Heap)
variable {W0 : World} {P : Program}
set_option maxHeartbeats 4000000
theorem heads_eq {x : Int} : inI x 1 2 = (decide (x = 1) || decide (x = 2)) := by
 rw [Bool.eq_iff_iff]
 simp only [inI, Bool.and_eq_true, Bool.or_eq_true, decide_eq_true_eq]
 omega
theorem specModel_ok {F : Nat → Adr} {m : LModel} {g : H2} (hs : smallMod m) : PW Tryz.prog W0 48 [.st (xModel F m)] g (fun y => y = .raw (.bool (modelB m))) := by
 obtain ⟨s1, s2, s3, s4, s5, s6, s7, s8⟩ := hs
 refine PW.scalar ?_
 refine begins [[0], [1], [], [1], [1, 3], [1, 3], [1, 3], [], [1], [1, 4], [1, 4], [1, 4], [], [1]] Tryz.func48 rfl (rs := [.tmp 2]) rfl rfl ?_
 intro wf
 repeat (first | rw [ko] | rw [kr] | simp -dsimp -implicitDefEqProofs only [go_sem, hoo])
 refine dq_intro [(0, []), (1, []), (2, []), (3, []), (4, []), (5, []), (6, []), (7, []), (8, []), (9, []), (10, []), (11, []), (12, []), (13, []), (14, []), (15, []), (16, []), (17, []), (18, []), (19, []), (20, []), (21, []), (22, []), (23, []), (24, []), (25, [22]), (26, []), (27, []), (28, []), (29, []), (30, []), (31, []), (32, []), (33, []), (34, [])] (by kernel_rfl) ?_
 repeat (first | rw [ko] | rw [kr] | simp -dsimp -implicitDefEqProofs only [go_sem, hoo])
 refine wz_intro l05Width_ok ?_
 rintro _ _ ⟨rfl, rfl⟩
 cases h1 : widthB m.dim
 ·repeat (first | rw [ko] | rw [kr] | simp -dsimp -implicitDefEqProofs only [go_sem, sQ1, hoo])
  exact ⟨le_push (H2.le.refl _), ⟨_, rfl⟩, by rw [modelB, h1]; rfl⟩
 by_cases h2 : m.heads = 1 ∨ m.heads = 2
 rotate_left
 ·have e1 : decide (¬ m.heads = 1) = true := decide_eq_true (fun h => h2 (.inl h))
  have e2 : decide (¬ m.heads = 2) = true := decide_eq_true (fun h => h2 (.inr h))
  repeat (first | rw [ko] | rw [kr] | simp -dsimp -implicitDefEqProofs only [go_sem, sQ1, hoo, e1, e2])
  exact ⟨le_push (H2.le.refl _), ⟨_, rfl⟩, by rw [modelB, h1, heads_eq, decide_eq_false (fun h => h2 (.inl h)), decide_eq_false (fun h => h2 (.inr h))]; rfl⟩
 have heq : inI m.heads 1 2 = true := by
  rw [heads_eq]
  rcases h2 with h2 | h2 <;> rw [h2] <;> rfl
 have mid : ∀ {A : Prop}, (decide (¬ m.heads = 1) = false → A) → (decide (¬ m.heads = 1) = true → decide (¬ m.heads = 2) = false → A) → A := fun a b => by
  rcases h2 with h2 | h2
  ·exact a (decide_eq_false (fun h => h h2))
  ·exact b (decide_eq_true (by omega)) (decide_eq_false (fun h => h h2))
 refine mid (fun e1 => ?_) (fun e1 e2 => ?_)
 ·repeat (first | rw [ko] | rw [kr] | simp -dsimp -implicitDefEqProofs only [go_sem, sQ1, hoo, e1])
  refine pw_intro (specMergesOk_ok s1) ?_
  rintro _ n1 hn1 rfl
  try (rw [kq]; refine ⟨zsm, ?_⟩)
  cases h3 : mergesB m.merges
  ·repeat (first | rw [ko] | rw [kr] | simp -dsimp -implicitDefEqProofs only [go_sem, sQ1, hoo])
   exact ⟨zale, ⟨_, rfl⟩, by rw [modelB, h1, heq, h3]; rfl⟩
  repeat (first | rw [ko] | rw [kr] | simp -dsimp -implicitDefEqProofs only [go_sem, sQ1, hoo])
  refine pw_intro (voc2_ok (F := F) (m := m) s1) ?_
  rintro _ n2 hn2 rfl
  try (rw [kq]; refine ⟨by simp -dsimp -implicitDefEqProofs only [go_sem, sQ1, hoo], ?_⟩)
  by_cases h4 : (m.embed.length : Int) = vocI m
  rotate_left
  ·have e4 : decide (¬ (m.embed.length : Int) = vocI m) = true := decide_eq_true h4
   repeat (first | rw [ko] | rw [kr] | simp -dsimp -implicitDefEqProofs only [go_sem, sQ1, hoo, e4])
   exact ⟨zale, ⟨_, rfl⟩, by rw [modelB, h1, heq, h3, decide_eq_false h4]; rfl⟩
  have e4 : decide (¬ (m.embed.length : Int) = vocI m) = false := decide_eq_false (fun h => h h4)
  repeat (first | rw [ko] | rw [kr] | simp -dsimp -implicitDefEqProofs only [go_sem, sQ1, hoo, e4])
  refine wz_intro l01In_ok ?_
  rintro _ _ ⟨rfl, rfl⟩
  try (rw [kq]; refine ⟨zsm, ?_⟩)
  cases h5 : inI m.layers.length 1 2
  ·repeat (first | rw [ko] | rw [kr] | simp -dsimp -implicitDefEqProofs only [go_sem, sQ1, hoo])
   exact ⟨zale, ⟨_, rfl⟩, by rw [modelB, h1, heq, h3, decide_eq_true h4, h5]; rfl⟩
  repeat (first | rw [ko] | rw [kr] | simp -dsimp -implicitDefEqProofs only [go_sem, sQ1, hoo])
  simp only [hn_up, hn_push] at hn1 hn2
  refine lz_keep [1] (fun mm e h' => ∃ (i : Nat), g.le h' ∧ hn g .mk < hn h' .mk ∧ hg h' (hn g .mk) .mk = some ⟨14, [.raw (.int .i64 m.dim), .raw (.int .i64 m.heads), .raw (.int .i64 m.context), .sl (F 3) 2 (rMergeS m.merges), .sl (F 4) 1 (rIntSS m.embed), .sl (F 5) 32 (rLayerS m.layers), .sl (F 6) 1 (ints m.gainEnd), .raw (.int .i64 m.head.width), .sl (F 8) 1 (rIntSS m.head.rows), .sl (F 9) 1 (rIntSS m.head.scales), .raw (.int .i64 m.head.mul), .raw (.int .i64 m.head.shift), .sl (F 12) 1 (rIntSS m.turns.cos), .sl (F 13) 1 (rIntSS m.turns.sin)]⟩ ∧ look e 3 .mk = .raw (.int .i64 (i : Nat)) ∧ mm + i = m.embed.length ∧ ∀ j, j < i → embB m.dim (m.embed.getD j default) = true) m.embed.length ?_ ?_
  ·exact ⟨0, zale, by simp only [hn_up]; omega, by simp -dsimp -implicitDefEqProofs only [go_sem, hoo], zsm, by omega, fun j hj => by omega⟩
  rintro mm e h' hks ⟨i, hle, hlt, row, ei, hm, hpre⟩
  simp -dsimp -implicitDefEqProofs only [go_sem] at hks
  by_cases q1 : (i : Int) < (m.embed.length : Int)
  ·have q2 : i < m.embed.length := by omega
   have hsz := s2.1
   have w1 := zwrs i (by omega)
   have bad : embB m.dim (m.embed.getD i default) = false → modelB m = false := fun h => by
    rw [modelB, h1, heq, h3, decide_eq_true h4, h5, any_getD (p := fun r => !embB m.dim r) q2 (by simp only [h]; rfl)]; rfl
   by_cases q4 : ((m.embed.getD i default).length : Int) = m.dim
   ·have e5 : decide (¬ ((m.embed.getD i default).length : Int) = m.dim) = false := decide_eq_false (fun h => h q4)
    repeat (first | rw [ko] | rw [kr] | simp -dsimp -implicitDefEqProofs only [go_sem, sQ1, hks, ei, q1, row])
    refine dq_intro [(0, []), (1, []), (2, []), (3, []), (4, []), (5, []), (6, []), (7, []), (8, []), (9, []), (10, []), (11, []), (12, []), (13, []), (14, []), (15, []), (16, []), (17, [])] (by kernel_rfl) ?_
    repeat (first | rw [ko] | rw [kr] | simp -dsimp -implicitDefEqProofs only [go_sem, sQ1, q2, row, e5])
    refine pw_intro (l05All_ok (by have := smallL_at s2 i; omega)) ?_
    rintro _ n3 hn3 rfl
    cases q5 : allI (m.embed.getD i default) (-127) 127
    ·repeat (first | rw [ko] | rw [kr] | simp -dsimp -implicitDefEqProofs only [go_sem, sQ1])
     exact ⟨le_up hle hn3, ⟨_, rfl⟩, by rw [bad (by rw [embB, q5, Bool.and_false])]⟩
    ·repeat (first | rw [ko] | rw [kr] | simp -dsimp -implicitDefEqProofs only [go_sem, sQ1, w1])
     refine nx_keep (mm - 1) (by omega) zsm ⟨i + 1, le_up hle hn3, by simp only [hn_up]; omega, by simp -dsimp -implicitDefEqProofs only [go_sem, row], zsm, by omega, fun j hj => ?_⟩
     by_cases hji : j = i
     ·subst hji; rw [embB, decide_eq_true q4, q5]; rfl
     ·exact hpre j (by omega)
   ·have e5 : decide (¬ ((m.embed.getD i default).length : Int) = m.dim) = true := decide_eq_true q4
    repeat (first | rw [ko] | rw [kr] | simp -dsimp -implicitDefEqProofs only [go_sem, sQ1, hks, ei, q1, row])
    refine dq_intro [(0, []), (1, []), (2, []), (3, []), (4, []), (5, []), (6, []), (7, []), (8, []), (9, []), (10, []), (11, []), (12, []), (13, []), (14, []), (15, []), (16, []), (17, [])] (by kernel_rfl) ?_
    repeat (first | rw [ko] | rw [kr] | simp -dsimp -implicitDefEqProofs only [go_sem, sQ1, q2, row, e5])
    exact ⟨hle, ⟨_, rfl⟩, by rw [bad (by rw [embB, decide_eq_false q4]; rfl)]⟩
  have h6 : (m.embed.any fun r => !embB m.dim r) = false := any_none fun j hj => by rw [hpre j (by omega)]; rfl
  repeat (first | rw [ko] | rw [kr] | simp -dsimp -implicitDefEqProofs only [go_sem, sQ1, hks, ei, q1, row])
  refine lz_keep [1] (fun m2 e2 h2' => ∃ (k : Nat), g.le h2' ∧ hn g .mk < hn h2' .mk ∧ hg h2' (hn g .mk) .mk = some ⟨14, [.raw (.int .i64 m.dim), .raw (.int .i64 m.heads), .raw (.int .i64 m.context), .sl (F 3) 2 (rMergeS m.merges), .sl (F 4) 1 (rIntSS m.embed), .sl (F 5) 32 (rLayerS m.layers), .sl (F 6) 1 (ints m.gainEnd), .raw (.int .i64 m.head.width), .sl (F 8) 1 (rIntSS m.head.rows), .sl (F 9) 1 (rIntSS m.head.scales), .raw (.int .i64 m.head.mul), .raw (.int .i64 m.head.shift), .sl (F 12) 1 (rIntSS m.turns.cos), .sl (F 13) 1 (rIntSS m.turns.sin)]⟩ ∧ look e2 4 .mk = .raw (.int .i64 (k : Nat)) ∧ m2 + k = m.layers.length ∧ ∀ j, j < k → layB (m.layers.getD j default) m.dim = true) m.layers.length ?_ ?_
  ·exact ⟨0, hle, hlt, row, zsm, by omega, fun j hj => by omega⟩
  rintro m2 e2 h2' hks2 ⟨k, hle2, hlt2, row2, ek, hm2, hpre2⟩
  simp -dsimp -implicitDefEqProofs only [go_sem] at hks2
  by_cases q1 : (k : Int) < (m.layers.length : Int)
  ·have q2 : k < m.layers.length := by omega
   have w1 := zwrs k (by omega)
   repeat (first | rw [ko] | rw [kr] | simp -dsimp -implicitDefEqProofs only [go_sem, sQ1, hks2, ek, q1, row2])
   refine dq_intro [(0, []), (1, []), (2, []), (3, []), (4, []), (5, []), (6, []), (7, []), (8, [])] (by kernel_rfl) ?_
   repeat (first | rw [ko] | rw [kr] | simp -dsimp -implicitDefEqProofs only [go_sem, sQ1, sQ2, sQ3, q2, row2])
   refine pw_intro (specLayer_ok (F := fun j => under (under (F 5) k) j) (l := m.layers.getD k default) (s4 k q2)) ?_
   rintro _ n3 hn3 rfl
   rw [h1, Bool.true_and]
   cases q5 : layB (m.layers.getD k default) m.dim
   ·repeat (first | rw [ko] | rw [kr] | simp -dsimp -implicitDefEqProofs only [go_sem])
    exact ⟨le_up hle2 hn3, ⟨_, rfl⟩, by rw [modelB, h1, heq, h3, decide_eq_true h4, h5, h6, any_getD (p := fun l => !layB l m.dim) q2 (by simp only [q5]; rfl)]; rfl⟩
   ·repeat (first | rw [ko] | rw [kr] | simp -dsimp -implicitDefEqProofs only [go_sem, sQ1, w1])
    refine nx_keep (m2 - 1) (by omega) zsm ⟨k + 1, le_up hle2 hn3, by simp only [hn_up]; omega, by simp -dsimp -implicitDefEqProofs only [go_sem, row2], zsm, by omega, fun j hj => ?_⟩
    by_cases hji : j = k
    ·subst hji; exact q5
    ·exact hpre2 j (by omega)
  have h7 : (m.layers.any fun l => !layB l m.dim) = false := any_none fun j hj => by rw [hpre2 j (by omega)]; rfl
  repeat (first | rw [ko] | rw [kr] | simp -dsimp -implicitDefEqProofs only [go_sem, sQ1, hks2, ek, q1, row2])
  refine dq_intro [(0, []), (1, []), (2, []), (3, []), (4, []), (5, []), (6, []), (7, []), (8, []), (9, []), (10, []), (11, [7, 9]), (12, []), (13, []), (14, []), (15, []), (16, []), (17, []), (18, []), (19, []), (20, []), (21, []), (22, []), (23, []), (24, []), (25, []), (26, []), (27, [])] (by kernel_rfl) ?_
  repeat (first | rw [ko] | rw [kr] | simp -dsimp -implicitDefEqProofs only [go_sem, sQ1, row2, hoo])
  refine pw_intro (specGain_ok s5) ?_
  rintro _ n5 hn5 rfl
  try (rw [kq]; refine ⟨zsm, ?_⟩)
  cases h8 : gainB m.gainEnd m.dim
  ·repeat (first | rw [ko] | rw [kr] | simp -dsimp -implicitDefEqProofs only [go_sem, sQ1, hoo])
   exact ⟨zale, ⟨_, rfl⟩, by rw [modelB, h1, heq, h3, decide_eq_true h4, h5, h6, h7, h8]; rfl⟩
  repeat (first | rw [ko] | rw [kr] | simp -dsimp -implicitDefEqProofs only [go_sem, sQ1, row2, hoo])
  refine pw_intro (voc2_ok (F := F) (m := m) s1) ?_
  rintro _ n6 hn6 rfl
  simp only [hn_up] at hn6
  try (rw [kq]; refine ⟨by simp -dsimp -implicitDefEqProofs only [go_sem, sQ1, row2, hoo], ?_⟩)
  repeat (first | rw [ko] | rw [kr] | simp -dsimp -implicitDefEqProofs only [go_sem, sQ1, hoo])
  refine pw_intro (l10Matrix_ok (F := fun j => F (j + 7)) (m := m.head) s6) ?_
  rintro _ n7 hn7 rfl
  simp only [hn_up] at hn7
  try (rw [kq]; refine ⟨zsm, ?_⟩)
  cases h9 : withB m.head m.dim (vocI m)
  ·repeat (first | rw [ko] | rw [kr] | simp -dsimp -implicitDefEqProofs only [go_sem, sQ1, hoo])
   exact ⟨zale, ⟨_, rfl⟩, by rw [modelB, h1, heq, h3, decide_eq_true h4, h5, h6, h7, h8, h9]; rfl⟩
  have hw := width_rng h1
  have hh : m.heads = 1 ∨ m.heads = 2 := by have := inI_tt heq; omega
  have z0 : (m.heads == 0) = false := zne
  have w1 : IntKind.i64.wrap (Int.tdiv m.dim m.heads) = Int.tdiv m.dim m.heads := by
   rcases hw with hw | hw <;> rcases hh with hh | hh <;> rw [hw, hh] <;> decide
  have w2 : IntKind.i64.wrap (Int.tdiv (Int.tdiv m.dim m.heads) 2) = Int.tdiv (Int.tdiv m.dim m.heads) 2 := by
   rcases hw with hw | hw <;> rcases hh with hh | hh <;> rw [hw, hh] <;> decide
  repeat (first | rw [ko] | rw [kr] | simp -dsimp -implicitDefEqProofs only [go_sem, sQ1, sQ7, row2, hoo, z0, w1, w2])
  refine pw_intro (specTurns_ok (F := fun j => F (j + 12)) (t := m.turns) s7 s8) ?_
  rintro _ n8 hn8 rfl
  simp only [hn_up] at hn8
  try (rw [kq]; refine ⟨zsm, ?_⟩)
  repeat (first | rw [ko] | rw [kr] | simp -dsimp -implicitDefEqProofs only [go_sem, sQ1, hoo])
  exact ⟨zale, ⟨_, rfl⟩, by rw [modelB, h1, heq, h3, decide_eq_true h4, h5, h6, h7, h8, h9]; rfl⟩
 ·repeat (first | rw [ko] | rw [kr] | simp -dsimp -implicitDefEqProofs only [go_sem, sQ1, hoo, e1, e2])
  refine pw_intro (specMergesOk_ok s1) ?_
  rintro _ n1 hn1 rfl
  try (rw [kq]; refine ⟨zsm, ?_⟩)
  cases h3 : mergesB m.merges
  ·repeat (first | rw [ko] | rw [kr] | simp -dsimp -implicitDefEqProofs only [go_sem, sQ1, hoo])
   exact ⟨zale, ⟨_, rfl⟩, by rw [modelB, h1, heq, h3]; rfl⟩
  repeat (first | rw [ko] | rw [kr] | simp -dsimp -implicitDefEqProofs only [go_sem, sQ1, hoo])
  refine pw_intro (voc2_ok (F := F) (m := m) s1) ?_
  rintro _ n2 hn2 rfl
  try (rw [kq]; refine ⟨by simp -dsimp -implicitDefEqProofs only [go_sem, sQ1, hoo], ?_⟩)
  by_cases h4 : (m.embed.length : Int) = vocI m
  rotate_left
  ·have e4 : decide (¬ (m.embed.length : Int) = vocI m) = true := decide_eq_true h4
   repeat (first | rw [ko] | rw [kr] | simp -dsimp -implicitDefEqProofs only [go_sem, sQ1, hoo, e4])
   exact ⟨zale, ⟨_, rfl⟩, by rw [modelB, h1, heq, h3, decide_eq_false h4]; rfl⟩
  have e4 : decide (¬ (m.embed.length : Int) = vocI m) = false := decide_eq_false (fun h => h h4)
  repeat (first | rw [ko] | rw [kr] | simp -dsimp -implicitDefEqProofs only [go_sem, sQ1, hoo, e4])
  refine wz_intro l01In_ok ?_
  rintro _ _ ⟨rfl, rfl⟩
  try (rw [kq]; refine ⟨zsm, ?_⟩)
  cases h5 : inI m.layers.length 1 2
  ·repeat (first | rw [ko] | rw [kr] | simp -dsimp -implicitDefEqProofs only [go_sem, sQ1, hoo])
   exact ⟨zale, ⟨_, rfl⟩, by rw [modelB, h1, heq, h3, decide_eq_true h4, h5]; rfl⟩
  repeat (first | rw [ko] | rw [kr] | simp -dsimp -implicitDefEqProofs only [go_sem, sQ1, hoo])
  simp only [hn_up, hn_push] at hn1 hn2
  refine lz_keep [1] (fun mm e h' => ∃ (i : Nat), g.le h' ∧ hn g .mk < hn h' .mk ∧ hg h' (hn g .mk) .mk = some ⟨14, [.raw (.int .i64 m.dim), .raw (.int .i64 m.heads), .raw (.int .i64 m.context), .sl (F 3) 2 (rMergeS m.merges), .sl (F 4) 1 (rIntSS m.embed), .sl (F 5) 32 (rLayerS m.layers), .sl (F 6) 1 (ints m.gainEnd), .raw (.int .i64 m.head.width), .sl (F 8) 1 (rIntSS m.head.rows), .sl (F 9) 1 (rIntSS m.head.scales), .raw (.int .i64 m.head.mul), .raw (.int .i64 m.head.shift), .sl (F 12) 1 (rIntSS m.turns.cos), .sl (F 13) 1 (rIntSS m.turns.sin)]⟩ ∧ look e 3 .mk = .raw (.int .i64 (i : Nat)) ∧ mm + i = m.embed.length ∧ ∀ j, j < i → embB m.dim (m.embed.getD j default) = true) m.embed.length ?_ ?_
  ·exact ⟨0, zale, by simp only [hn_up]; omega, by simp -dsimp -implicitDefEqProofs only [go_sem, hoo], zsm, by omega, fun j hj => by omega⟩
  rintro mm e h' hks ⟨i, hle, hlt, row, ei, hm, hpre⟩
  simp -dsimp -implicitDefEqProofs only [go_sem] at hks
  by_cases q1 : (i : Int) < (m.embed.length : Int)
  ·have q2 : i < m.embed.length := by omega
   have hsz := s2.1
   have w1 := zwrs i (by omega)
   have bad : embB m.dim (m.embed.getD i default) = false → modelB m = false := fun h => by
    rw [modelB, h1, heq, h3, decide_eq_true h4, h5, any_getD (p := fun r => !embB m.dim r) q2 (by simp only [h]; rfl)]; rfl
   by_cases q4 : ((m.embed.getD i default).length : Int) = m.dim
   ·have e5 : decide (¬ ((m.embed.getD i default).length : Int) = m.dim) = false := decide_eq_false (fun h => h q4)
    repeat (first | rw [ko] | rw [kr] | simp -dsimp -implicitDefEqProofs only [go_sem, sQ1, hks, ei, q1, row])
    refine dq_intro [(0, []), (1, []), (2, []), (3, []), (4, []), (5, []), (6, []), (7, []), (8, []), (9, []), (10, []), (11, []), (12, []), (13, []), (14, []), (15, []), (16, []), (17, [])] (by kernel_rfl) ?_
    repeat (first | rw [ko] | rw [kr] | simp -dsimp -implicitDefEqProofs only [go_sem, sQ1, q2, row, e5])
    refine pw_intro (l05All_ok (by have := smallL_at s2 i; omega)) ?_
    rintro _ n3 hn3 rfl
    cases q5 : allI (m.embed.getD i default) (-127) 127
    ·repeat (first | rw [ko] | rw [kr] | simp -dsimp -implicitDefEqProofs only [go_sem, sQ1])
     exact ⟨le_up hle hn3, ⟨_, rfl⟩, by rw [bad (by rw [embB, q5, Bool.and_false])]⟩
    ·repeat (first | rw [ko] | rw [kr] | simp -dsimp -implicitDefEqProofs only [go_sem, sQ1, w1])
     refine nx_keep (mm - 1) (by omega) zsm ⟨i + 1, le_up hle hn3, by simp only [hn_up]; omega, by simp -dsimp -implicitDefEqProofs only [go_sem, row], zsm, by omega, fun j hj => ?_⟩
     by_cases hji : j = i
     ·subst hji; rw [embB, decide_eq_true q4, q5]; rfl
     ·exact hpre j (by omega)
   ·have e5 : decide (¬ ((m.embed.getD i default).length : Int) = m.dim) = true := decide_eq_true q4
    repeat (first | rw [ko] | rw [kr] | simp -dsimp -implicitDefEqProofs only [go_sem, sQ1, hks, ei, q1, row])
    refine dq_intro [(0, []), (1, []), (2, []), (3, []), (4, []), (5, []), (6, []), (7, []), (8, []), (9, []), (10, []), (11, []), (12, []), (13, []), (14, []), (15, []), (16, []), (17, [])] (by kernel_rfl) ?_
    repeat (first | rw [ko] | rw [kr] | simp -dsimp -implicitDefEqProofs only [go_sem, sQ1, q2, row, e5])
    exact ⟨hle, ⟨_, rfl⟩, by rw [bad (by rw [embB, decide_eq_false q4]; rfl)]⟩
  have h6 : (m.embed.any fun r => !embB m.dim r) = false := any_none fun j hj => by rw [hpre j (by omega)]; rfl
  repeat (first | rw [ko] | rw [kr] | simp -dsimp -implicitDefEqProofs only [go_sem, sQ1, hks, ei, q1, row])
  refine lz_keep [1] (fun m2 e2 h2' => ∃ (k : Nat), g.le h2' ∧ hn g .mk < hn h2' .mk ∧ hg h2' (hn g .mk) .mk = some ⟨14, [.raw (.int .i64 m.dim), .raw (.int .i64 m.heads), .raw (.int .i64 m.context), .sl (F 3) 2 (rMergeS m.merges), .sl (F 4) 1 (rIntSS m.embed), .sl (F 5) 32 (rLayerS m.layers), .sl (F 6) 1 (ints m.gainEnd), .raw (.int .i64 m.head.width), .sl (F 8) 1 (rIntSS m.head.rows), .sl (F 9) 1 (rIntSS m.head.scales), .raw (.int .i64 m.head.mul), .raw (.int .i64 m.head.shift), .sl (F 12) 1 (rIntSS m.turns.cos), .sl (F 13) 1 (rIntSS m.turns.sin)]⟩ ∧ look e2 4 .mk = .raw (.int .i64 (k : Nat)) ∧ m2 + k = m.layers.length ∧ ∀ j, j < k → layB (m.layers.getD j default) m.dim = true) m.layers.length ?_ ?_
  ·exact ⟨0, hle, hlt, row, zsm, by omega, fun j hj => by omega⟩
  rintro m2 e2 h2' hks2 ⟨k, hle2, hlt2, row2, ek, hm2, hpre2⟩
  simp -dsimp -implicitDefEqProofs only [go_sem] at hks2
  by_cases q1 : (k : Int) < (m.layers.length : Int)
  ·have q2 : k < m.layers.length := by omega
   have w1 := zwrs k (by omega)
   repeat (first | rw [ko] | rw [kr] | simp -dsimp -implicitDefEqProofs only [go_sem, sQ1, hks2, ek, q1, row2])
   refine dq_intro [(0, []), (1, []), (2, []), (3, []), (4, []), (5, []), (6, []), (7, []), (8, [])] (by kernel_rfl) ?_
   repeat (first | rw [ko] | rw [kr] | simp -dsimp -implicitDefEqProofs only [go_sem, sQ1, sQ2, sQ3, q2, row2])
   refine pw_intro (specLayer_ok (F := fun j => under (under (F 5) k) j) (l := m.layers.getD k default) (s4 k q2)) ?_
   rintro _ n3 hn3 rfl
   rw [h1, Bool.true_and]
   cases q5 : layB (m.layers.getD k default) m.dim
   ·repeat (first | rw [ko] | rw [kr] | simp -dsimp -implicitDefEqProofs only [go_sem])
    exact ⟨le_up hle2 hn3, ⟨_, rfl⟩, by rw [modelB, h1, heq, h3, decide_eq_true h4, h5, h6, any_getD (p := fun l => !layB l m.dim) q2 (by simp only [q5]; rfl)]; rfl⟩
   ·repeat (first | rw [ko] | rw [kr] | simp -dsimp -implicitDefEqProofs only [go_sem, sQ1, w1])
    refine nx_keep (m2 - 1) (by omega) zsm ⟨k + 1, le_up hle2 hn3, by simp only [hn_up]; omega, by simp -dsimp -implicitDefEqProofs only [go_sem, row2], zsm, by omega, fun j hj => ?_⟩
    by_cases hji : j = k
    ·subst hji; exact q5
    ·exact hpre2 j (by omega)
  have h7 : (m.layers.any fun l => !layB l m.dim) = false := any_none fun j hj => by rw [hpre2 j (by omega)]; rfl
  repeat (first | rw [ko] | rw [kr] | simp -dsimp -implicitDefEqProofs only [go_sem, sQ1, hks2, ek, q1, row2])
  refine dq_intro [(0, []), (1, []), (2, []), (3, []), (4, []), (5, []), (6, []), (7, []), (8, []), (9, []), (10, []), (11, [7, 9]), (12, []), (13, []), (14, []), (15, []), (16, []), (17, []), (18, []), (19, []), (20, []), (21, []), (22, []), (23, []), (24, []), (25, []), (26, []), (27, [])] (by kernel_rfl) ?_
  repeat (first | rw [ko] | rw [kr] | simp -dsimp -implicitDefEqProofs only [go_sem, sQ1, row2, hoo])
  refine pw_intro (specGain_ok s5) ?_
  rintro _ n5 hn5 rfl
  try (rw [kq]; refine ⟨zsm, ?_⟩)
  cases h8 : gainB m.gainEnd m.dim
  ·repeat (first | rw [ko] | rw [kr] | simp -dsimp -implicitDefEqProofs only [go_sem, sQ1, hoo])
   exact ⟨zale, ⟨_, rfl⟩, by rw [modelB, h1, heq, h3, decide_eq_true h4, h5, h6, h7, h8]; rfl⟩
  repeat (first | rw [ko] | rw [kr] | simp -dsimp -implicitDefEqProofs only [go_sem, sQ1, row2, hoo])
  refine pw_intro (voc2_ok (F := F) (m := m) s1) ?_
  rintro _ n6 hn6 rfl
  simp only [hn_up] at hn6
  try (rw [kq]; refine ⟨by simp -dsimp -implicitDefEqProofs only [go_sem, sQ1, row2, hoo], ?_⟩)
  repeat (first | rw [ko] | rw [kr] | simp -dsimp -implicitDefEqProofs only [go_sem, sQ1, hoo])
  refine pw_intro (l10Matrix_ok (F := fun j => F (j + 7)) (m := m.head) s6) ?_
  rintro _ n7 hn7 rfl
  simp only [hn_up] at hn7
  try (rw [kq]; refine ⟨zsm, ?_⟩)
  cases h9 : withB m.head m.dim (vocI m)
  ·repeat (first | rw [ko] | rw [kr] | simp -dsimp -implicitDefEqProofs only [go_sem, sQ1, hoo])
   exact ⟨zale, ⟨_, rfl⟩, by rw [modelB, h1, heq, h3, decide_eq_true h4, h5, h6, h7, h8, h9]; rfl⟩
  have hw := width_rng h1
  have hh : m.heads = 1 ∨ m.heads = 2 := by have := inI_tt heq; omega
  have z0 : (m.heads == 0) = false := zne
  have w1 : IntKind.i64.wrap (Int.tdiv m.dim m.heads) = Int.tdiv m.dim m.heads := by
   rcases hw with hw | hw <;> rcases hh with hh | hh <;> rw [hw, hh] <;> decide
  have w2 : IntKind.i64.wrap (Int.tdiv (Int.tdiv m.dim m.heads) 2) = Int.tdiv (Int.tdiv m.dim m.heads) 2 := by
   rcases hw with hw | hw <;> rcases hh with hh | hh <;> rw [hw, hh] <;> decide
  repeat (first | rw [ko] | rw [kr] | simp -dsimp -implicitDefEqProofs only [go_sem, sQ1, sQ7, row2, hoo, z0, w1, w2])
  refine pw_intro (specTurns_ok (F := fun j => F (j + 12)) (t := m.turns) s7 s8) ?_
  rintro _ n8 hn8 rfl
  simp only [hn_up] at hn8
  try (rw [kq]; refine ⟨zsm, ?_⟩)
  repeat (first | rw [ko] | rw [kr] | simp -dsimp -implicitDefEqProofs only [go_sem, sQ1, hoo])
  exact ⟨zale, ⟨_, rfl⟩, by rw [modelB, h1, heq, h3, decide_eq_true h4, h5, h6, h7, h8, h9]; rfl⟩
end Go.Bi
end
