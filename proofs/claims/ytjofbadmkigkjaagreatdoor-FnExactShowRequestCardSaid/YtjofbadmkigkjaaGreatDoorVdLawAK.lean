/- Own lemmas that the theorem of this claim needs: the abstract machine and walks of functions. -/
import Derived.Test.YtjofbadmkigkjaaGreatDoorVdLawAJ
set_option linter.unusedSimpArgs false
set_option linter.unusedVariables false
open Nat renaming reduceBEq → rq1, reduceAdd → rq2, reduceLeDiff → rq3, reduceMul → rq4
open Int renaming reduceLE → rq5, reduceLT → rq6, reduceBEq → rq7
section
set_option maxRecDepth 20000
namespace Go.Bi
open Go.Proofs
open Go.Ai (wrap_i64 wrap_u8 Heap)
variable {W0 : World} {P : Program}
set_option maxHeartbeats 4000000
theorem indexR_ok {F : FuncId} {p : List Int → Bool} {caps : List Value} {f : Adr} {ss : List (List Int)} {h : H2} (hn0 : ss.length ≤ 1048576)
  (hf : ∀ (i : Nat), i < ss.length → ∀ (f' : Adr) (h' : H2), h.le h' → PW Tryz.prog W0 F ([.sl f' 1 (ints (ss.getD i default))] ++ caps.map .raw) h' (fun v => v = .raw (.bool (p (ss.getD i default))))) :
  PW Tryz.prog W0 155 [.sl f 1 (rIntSS ss), .raw (.func (.func F) #[] caps.toArray)] h (fun v => ∃ k : Int, v = .raw (.int .i64 k) ∧ decide (0 ≤ k) = ss.any p) := by
 refine PW.scalar ((?_ : WC2 _ _ _ _ _ fun v g' => h.le g' ∧ ∃ k : Int, v = .raw (.int .i64 k) ∧ decide (0 ≤ k) = ss.any p).mono fun v g' ⟨h1, k, h2, h3⟩ => ⟨h1, ⟨_, h2⟩, k, h2, h3⟩)
 refine begins [[0, 1], [0, 1], [0, 1, 7, 8], [0, 1, 7, 8], [0, 1, 5, 7, 8], [5], [0, 1, 7, 8], []] Tryz.func155 rfl (rs := [.tmp 4]) rfl rfl ?_
 intro wf
 repeat (first | rw [ko] | rw [kr] | simp -dsimp -implicitDefEqProofs only [go_sem])
 refine lz_keep [0, 1, 7] (fun m e h' => h.le h' ∧ ∃ k : Nat, look e 8 .mk = .raw (.int .i64 k) ∧ m + k = ss.length ∧ ∀ j : Nat, j < k → p (ss.getD j default) = false) ss.length ?_ ?_
 ·exact ⟨H2.le.refl _, 0, zsm, by omega, fun j hj => by omega⟩
 ·rintro m e h' hks ⟨hle, k, e8, hk, hpre⟩
  simp -dsimp -implicitDefEqProofs only [go_sem, rq1] at hks
  repeat (first | rw [ko] | rw [kr] | simp -dsimp -implicitDefEqProofs only [go_sem, hks, e8])
  refine gz_dec (fun h2 => ?_) (fun h2 => ?_)
  ·have h3 : k < ss.length := by omega
   repeat (first | rw [ko] | rw [kr] | simp -dsimp -implicitDefEqProofs only [go_sem, rq1, h3])
   refine pw_intro (hf k h3 _ _ hle) ?_
   rintro _ n hn1 rfl
   repeat (first | rw [ko] | rw [kr] | simp -dsimp -implicitDefEqProofs only [go_sem])
   refine gz_intro (fun h4 => ?_) (fun h4 => ?_)
   ·repeat (first | rw [ko] | rw [kr] | simp -dsimp -implicitDefEqProofs only [go_sem, rq1])
    exact ⟨le_up hle hn1, _, rfl, by rw [any_getD h3 h4]; simp⟩
   ·repeat (first | rw [ko] | rw [kr] | simp -dsimp -implicitDefEqProofs only [go_sem, rq1, wrap_succ h3 (by omega)])
    refine nx_keep (m - 1) (by omega) zsm ⟨le_up hle hn1, k + 1, zsm, by omega, fun j hj => ?_⟩
    by_cases hji : j = k
    ·subst hji; exact h4
    ·exact hpre j (by omega)
  ·repeat (first | rw [ko] | rw [kr] | simp -dsimp -implicitDefEqProofs only [go_sem])
   exact ⟨hle, _, rfl, by rw [any_none fun j hj => hpre j (by omega)]; rfl⟩
theorem containsR_ok {F : FuncId} {p : List Int → Bool} {caps : List Value} {f : Adr} {ss : List (List Int)} {h : H2} (hn0 : ss.length ≤ 1048576)
  (hf : ∀ (i : Nat), i < ss.length → ∀ (f' : Adr) (h' : H2), h.le h' → PW Tryz.prog W0 F ([.sl f' 1 (ints (ss.getD i default))] ++ caps.map .raw) h' (fun v => v = .raw (.bool (p (ss.getD i default))))) :
  PW Tryz.prog W0 122 [.sl f 1 (rIntSS ss), .raw (.func (.func F) #[] caps.toArray)] h (fun v => v = .raw (.bool (ss.any p))) := by
 refine PW.scalar ?_
 refine begins [[0, 1], [0, 1]] Tryz.func122 rfl (rs := [.tmp 4]) rfl rfl ?_
 intro wf
 repeat (first | rw [ko] | rw [kr] | simp -dsimp -implicitDefEqProofs only [go_sem])
 refine pw_intro (indexR_ok hn0 hf) ?_
 rintro _ n hn1 ⟨k, rfl, hk⟩
 repeat (first | rw [ko] | rw [kr] | simp -dsimp -implicitDefEqProofs only [go_sem, hk])
 exact ⟨le_up (H2.le.refl _) hn1, ⟨_, rfl⟩, rfl⟩
def turnB (n : Int) (l : List Int) : Bool := decide ((l.length : Int) = n) && allI l (-128) 128
def turnsL (l : List (List Int)) (c n : Int) : Bool := decide ((l.length : Int) = c) && !(l.any fun x => !turnB n x)
def turnsB (t : LTurns) (c n : Int) : Bool := inI c 4 24 && (inI n 1 4 && (turnsL t.cos c n && turnsL t.sin c n))
theorem turn1_ok {f : Adr} {l : List Int} {b z : Nat} {n : Int} {h : H2} (hb : hg h b .mk = some ⟨z, [.raw (.int .i64 n)]⟩) (hl : l.length ≤ 1048576) : PW Tryz.prog W0 185 [.sl f 1 (ints l), .raw (.pointer (some ⟨b, 0, none⟩))] h (fun y => y = .raw (.bool (!turnB n l))) := by
 refine PW.scalar ?_
 refine begins [[0, 1], [0, 1]] Tryz.func185 rfl (rs := [.tmp 3]) rfl rfl ?_
 intro wf
 by_cases h1 : (l.length : Int) = n
 ·have d1 : decide ((l.length : Int) = n) = true := decide_eq_true h1
  have e1 : decide (¬ (l.length : Int) = n) = false := decide_eq_false (fun h => h h1)
  repeat (first | rw [ko] | rw [kr] | simp -dsimp -implicitDefEqProofs only [go_sem, rq1, hb, e1])
  refine pw_intro (allIn_ok (by omega)) ?_
  rintro _ n1 hn1 rfl
  repeat (first | rw [ko] | rw [kr] | simp -dsimp -implicitDefEqProofs only [go_sem])
  exact ⟨le_up (H2.le.refl _) hn1, ⟨_, rfl⟩, by rw [turnB, d1]; rfl⟩
 ·have d1 : decide ((l.length : Int) = n) = false := decide_eq_false h1
  have e1 : decide (¬ (l.length : Int) = n) = true := decide_eq_true h1
  repeat (first | rw [ko] | rw [kr] | simp -dsimp -implicitDefEqProofs only [go_sem, hb, e1])
  exact ⟨H2.le.refl _, ⟨_, rfl⟩, by rw [turnB, d1]; rfl⟩
theorem turnLists_ok {f : Adr} {l : List (List Int)} {c n : Int} {g : H2} (hl : smallL l) : PW Tryz.prog W0 161 [.sl f 1 (rIntSS l), .raw (.int .i64 c), .raw (.int .i64 n)] g (fun y => y = .raw (.bool (turnsL l c n))) := by
 refine PW.scalar ?_
 refine begins [[0, 1, 2], [0, 1, 5]] Tryz.func161 rfl (rs := [.tmp 6]) rfl rfl ?_
 intro wf
 by_cases h1 : (l.length : Int) = c
 ·have d1 : decide ((l.length : Int) = c) = true := decide_eq_true h1
  repeat (first | rw [ko] | rw [kr] | simp -dsimp -implicitDefEqProofs only [go_sem, rq1, d1, hoo])
  refine pw_intro (containsR_ok (F := 185) (p := fun x => !turnB n x) (caps := [.pointer (some ⟨hn g .mk, 0, none⟩)]) hl.1 fun i hi f' h' hle => ?_) ?_
  ·exact turn1_ok (z := 1) ((hle.2 (hn g .mk) (by rw [hn_push]; omega)).trans (by simp -dsimp -implicitDefEqProofs only [go_sem, hoo])) (smallL_at hl i)
  rintro _ n1 hn1 rfl
  rw [hn_push] at hn1
  repeat (first | rw [ko] | rw [kr] | simp -dsimp -implicitDefEqProofs only [go_sem])
  exact ⟨le_up (le_push (H2.le.refl _)) (by rw [hn_push]; exact hn1), ⟨_, rfl⟩, by rw [turnsL, d1]; rfl⟩
 ·have d1 : decide ((l.length : Int) = c) = false := decide_eq_false h1
  repeat (first | rw [ko] | rw [kr] | simp -dsimp -implicitDefEqProofs only [go_sem, rq1, d1, hoo])
  exact ⟨le_push (H2.le.refl _), ⟨_, rfl⟩, by rw [turnsL, d1]; rfl⟩
theorem implTurns_ok {F : Nat → Adr} {t : LTurns} {c n : Int} {g : H2} (h1 : smallL t.cos) (h2 : smallL t.sin) : PW Tryz.prog W0 130 [.st (xTurns F t), .raw (.int .i64 c), .raw (.int .i64 n)] g (fun y => y = .raw (.bool (turnsB t c n))) := by
 refine PW.scalar ?_
 refine begins [[0, 1, 2], [1, 2, 3]] Tryz.func130 rfl (rs := [.tmp 6]) rfl rfl ?_
 intro wf
 repeat (first | rw [ko] | rw [kr] | simp -dsimp -implicitDefEqProofs only [go_sem, rq1, hoo])
 refine wz_intro in_ok ?_
 rintro _ _ ⟨rfl, rfl⟩
 cases q1 : inI c 4 24
 ·repeat (first | rw [ko] | rw [kr] | simp -dsimp -implicitDefEqProofs only [go_sem, rq1, hoo])
  exact ⟨le_push (H2.le.refl _), ⟨_, rfl⟩, by rw [turnsB, q1]; rfl⟩
 repeat (first | rw [ko] | rw [kr] | simp -dsimp -implicitDefEqProofs only [go_sem, rq1, hoo])
 refine wz_intro in_ok ?_
 rintro _ _ ⟨rfl, rfl⟩
 cases q2 : inI n 1 4
 ·repeat (first | rw [ko] | rw [kr] | simp -dsimp -implicitDefEqProofs only [go_sem, rq1, hoo])
  exact ⟨le_push (H2.le.refl _), ⟨_, rfl⟩, by rw [turnsB, q1, q2]; rfl⟩
 repeat (first | rw [ko] | rw [kr] | simp -dsimp -implicitDefEqProofs only [go_sem, rq1, hoo])
 refine pw_intro (turnLists_ok h1) ?_
 rintro _ n1 hn1 rfl
 rw [hn_push] at hn1
 cases q3 : turnsL t.cos c n
 ·repeat (first | rw [ko] | rw [kr] | simp -dsimp -implicitDefEqProofs only [go_sem, rq1, hoo])
  exact ⟨le_up (le_push (H2.le.refl _)) (by rw [hn_push]; exact hn1), ⟨_, rfl⟩, by rw [turnsB, q1, q2, q3]; rfl⟩
 repeat (first | rw [ko] | rw [kr] | simp -dsimp -implicitDefEqProofs only [go_sem, rq1, hoo])
 refine pw_intro (turnLists_ok h2) ?_
 rintro _ n2 hn2 rfl
 rw [hn_up] at hn2
 repeat (first | rw [ko] | rw [kr] | simp -dsimp -implicitDefEqProofs only [go_sem, rq1, hoo])
 exact ⟨le_up (le_up (le_push (H2.le.refl _)) (by rw [hn_push]; exact hn1)) (by rw [hn_up]; exact hn2), ⟨_, rfl⟩, by rw [turnsB, q1, q2, q3]; rfl⟩
end Go.Bi
end
section
set_option maxRecDepth 20000
namespace Go.Bi
open Go.Proofs
open Go.Ai (wrap_i64 wrap_u8 Heap)
variable {W0 : World} {P : Program}
set_option maxHeartbeats 4000000
theorem turnsL_bad {l : List (List Int)} {c n : Int} {i : Nat} (hi : i < l.length) (h : turnB n (l.getD i default) = false) : turnsL l c n = false := by
 unfold turnsL
 rw [any_getD (p := fun x => !turnB n x) hi (by simp only [h]; rfl)]; simp
theorem turnsL_good {l : List (List Int)} {c n : Int} (hc : (l.length : Int) = c) (h : ∀ i, i < l.length → turnB n (l.getD i default) = true) : turnsL l c n = true := by
 unfold turnsL
 rw [any_none (p := fun x => !turnB n x) fun j hj => by simp only [h j hj]; rfl, decide_eq_true hc]; rfl
theorem specTurns_ok {F : Nat → Adr} {t : LTurns} {c n : Int} {g : H2} (s1 : smallL t.cos) (s2 : smallL t.sin) : PW Tryz.prog W0 91 [.st (xTurns F t), .raw (.int .i64 c), .raw (.int .i64 n)] g (fun y => y = .raw (.bool (turnsB t c n))) := by
 obtain ⟨s11, s12⟩ := id s1
 obtain ⟨s21, s22⟩ := id s2
 refine PW.scalar ?_
 refine begins [[0, 1, 2], [1, 2, 3], [], [1, 2, 3], [1, 2, 3, 7], [1, 2, 3, 7], [1, 2, 3, 7], [], []] Tryz.func91 rfl (rs := [.tmp 6]) rfl rfl ?_
 intro wf
 repeat (first | rw [ko] | rw [kr] | simp -dsimp -implicitDefEqProofs only [go_sem, rq1, hoo])
 refine wz_intro l01In_ok ?_
 rintro _ _ ⟨rfl, rfl⟩
 cases q1 : inI c 4 24
 ·repeat (first | rw [ko] | rw [kr] | simp -dsimp -implicitDefEqProofs only [go_sem, rq1, hoo])
  exact ⟨le_push (H2.le.refl _), ⟨_, rfl⟩, by rw [turnsB, q1]; rfl⟩
 repeat (first | rw [ko] | rw [kr] | simp -dsimp -implicitDefEqProofs only [go_sem, rq1, hoo])
 refine wz_intro l01In_ok ?_
 rintro _ _ ⟨rfl, rfl⟩
 cases q2 : inI n 1 4
 ·repeat (first | rw [ko] | rw [kr] | simp -dsimp -implicitDefEqProofs only [go_sem, rq1, hoo])
  exact ⟨le_push (H2.le.refl _), ⟨_, rfl⟩, by rw [turnsB, q1, q2]; rfl⟩
 have hB : turnsB t c n = (turnsL t.cos c n && turnsL t.sin c n) := by rw [turnsB, q1, q2]; rfl
 by_cases h3 : (t.cos.length : Int) = c
 rotate_left
 ·have e3 : decide (¬ (t.cos.length : Int) = c) = true := decide_eq_true h3
  repeat (first | rw [ko] | rw [kr] | simp -dsimp -implicitDefEqProofs only [go_sem, rq1, hoo, e3])
  exact ⟨le_push (H2.le.refl _), ⟨_, rfl⟩, by rw [hB, turnsL, decide_eq_false h3]; rfl⟩
 have e3 : decide (¬ (t.cos.length : Int) = c) = false := decide_eq_false (fun h => h h3)
 by_cases h4 : (t.sin.length : Int) = c
 rotate_left
 ·have e4 : decide (¬ (t.sin.length : Int) = c) = true := decide_eq_true h4
  repeat (first | rw [ko] | rw [kr] | simp -dsimp -implicitDefEqProofs only [go_sem, rq1, hoo, e3, e4])
  refine ⟨le_push (H2.le.refl _), ⟨_, rfl⟩, ?_⟩
  rw [hB, show turnsL t.sin c n = false by rw [turnsL, decide_eq_false h4]; rfl, Bool.and_false]
 have e4 : decide (¬ (t.sin.length : Int) = c) = false := decide_eq_false (fun h => h h4)
 repeat (first | rw [ko] | rw [kr] | simp -dsimp -implicitDefEqProofs only [go_sem, rq1, hoo, e3, e4])
 refine lz_keep [1, 2, 3] (fun mm e h' => ∃ (i : Nat), g.le h' ∧ hg h' (hn g .mk) .mk = some ⟨2, [.sl (F 0) 1 (rIntSS t.cos), .sl (F 1) 1 (rIntSS t.sin)]⟩ ∧ look e 7 .mk = .raw (.int .i64 (i : Nat)) ∧ mm + i = t.cos.length ∧ ∀ j, j < i → turnB n (t.cos.getD j default) = true ∧ turnB n (t.sin.getD j default) = true) t.cos.length ?_ ?_
 ·exact ⟨0, le_push (H2.le.refl _), by simp -dsimp -implicitDefEqProofs only [go_sem, hoo], zsm, by omega, fun j hj => by omega⟩
 ·rintro mm e h' hks ⟨i, hle, row, ei, hm, hpre⟩
  simp -dsimp -implicitDefEqProofs only [go_sem, rq1] at hks
  by_cases q5 : (i : Int) < c
  ·have q6 : i < t.cos.length := by omega
   have q7 : i < t.sin.length := by omega
   have w1 := zwrs i (by omega)
   by_cases p1 : ((t.cos.getD i default).length : Int) = n
   rotate_left
   ·have n1 : decide (¬ ((t.cos.getD i default).length : Int) = n) = true := decide_eq_true p1
    repeat (first | rw [ko] | rw [kr] | simp -dsimp -implicitDefEqProofs only [go_sem, rq1, hks, ei, q5, q6, n1, row])
    exact ⟨hle, ⟨_, rfl⟩, by rw [hB, turnsL_bad q6 (by rw [turnB, decide_eq_false p1]; rfl)]; rfl⟩
   have n1 : decide (¬ ((t.cos.getD i default).length : Int) = n) = false := decide_eq_false (fun h => h p1)
   by_cases p2 : ((t.sin.getD i default).length : Int) = n
   rotate_left
   ·have n2 : decide (¬ ((t.sin.getD i default).length : Int) = n) = true := decide_eq_true p2
    repeat (first | rw [ko] | rw [kr] | simp -dsimp -implicitDefEqProofs only [go_sem, rq1, hks, ei, q5, q6, q7, n1, n2, row])
    exact ⟨hle, ⟨_, rfl⟩, by rw [hB, turnsL_bad (l := t.sin) q7 (by rw [turnB, decide_eq_false p2]; rfl), Bool.and_false]⟩
   have n2 : decide (¬ ((t.sin.getD i default).length : Int) = n) = false := decide_eq_false (fun h => h p2)
   repeat (first | rw [ko] | rw [kr] | simp -dsimp -implicitDefEqProofs only [go_sem, rq1, hks, ei, q5, q6, q7, n1, n2, row])
   refine pw_intro (l05All_ok (by have := smallL_at s1 i; omega)) ?_
   rintro _ k1 hk1 rfl
   cases p3 : allI (t.cos.getD i default) (-128) 128
   ·repeat (first | rw [ko] | rw [kr] | simp -dsimp -implicitDefEqProofs only [go_sem, rq1])
    exact ⟨le_up hle hk1, ⟨_, rfl⟩, by rw [hB, turnsL_bad q6 (by rw [turnB, p3, Bool.and_false])]; rfl⟩
   repeat (first | rw [ko] | rw [kr] | simp -dsimp -implicitDefEqProofs only [go_sem, rq1, q7, row])
   refine pw_intro (l05All_ok (by have := smallL_at s2 i; omega)) ?_
   rintro _ k2 hk2 rfl
   cases p4 : allI (t.sin.getD i default) (-128) 128
   ·repeat (first | rw [ko] | rw [kr] | simp -dsimp -implicitDefEqProofs only [go_sem, rq1])
    exact ⟨le_up (le_up hle hk1) hk2, ⟨_, rfl⟩, by rw [hB, turnsL_bad (l := t.sin) q7 (by rw [turnB, p4, Bool.and_false]), Bool.and_false]⟩
   repeat (first | rw [ko] | rw [kr] | simp -dsimp -implicitDefEqProofs only [go_sem, rq1, w1])
   refine nx_keep (mm - 1) (by omega) zsm ⟨i + 1, le_up (le_up hle hk1) hk2, by simp -dsimp -implicitDefEqProofs only [go_sem, row], zsm, by omega, fun j hj => ?_⟩
   by_cases hji : j = i
   ·subst hji; exact ⟨by rw [turnB, decide_eq_true p1, p3]; rfl, by rw [turnB, decide_eq_true p2, p4]; rfl⟩
   ·exact hpre j (by omega)
  ·repeat (first | rw [ko] | rw [kr] | simp -dsimp -implicitDefEqProofs only [go_sem, rq1, hks, ei, q5])
   refine ⟨hle, ⟨_, rfl⟩, ?_⟩
   rw [hB, turnsL_good h3 fun j hj => (hpre j (by omega)).1, turnsL_good h4 fun j hj => (hpre j (by omega)).2]; rfl
end Go.Bi
end
section
set_option maxRecDepth 20000
namespace Go.Bi
open Go.Proofs
open Go.Ai (wrap_i64 wrap_u8 Heap)
variable {W0 : World} {P : Program}
set_option maxHeartbeats 4000000
def layB (l : LLayer) (d : Int) : Bool := gainB l.gain1 d && (gainB l.gain2 d && (widthB l.up.rows.length && (withB l.q d d && (withB l.k d d && (withB l.v d d && (withB l.o d d && (withB l.up d l.up.rows.length && withB l.down l.up.rows.length d)))))))
def rMx (l : List LMatrix) : List (List T) := l.map eMatrix
theorem rMx_len {l : List LMatrix} : (rMx l).length = l.length := by simp [rMx]
theorem rMx_el {l : List LMatrix} {i : Nat} (hi : i < l.length) : el (rMx l) i = eMatrix (l.getD i default) := el_map hi
attribute [go_sem] rMx_len rMx_el
def smallY (l : LLayer) : Prop := l.gain1.length ≤ 1048576 ∧ l.gain2.length ≤ 1048576 ∧ smallM l.q ∧ smallM l.k ∧ smallM l.v ∧ smallM l.o ∧ smallM l.up ∧ smallM l.down
theorem specLayer_ok {F : Nat → Adr} {l : LLayer} {d : Int} {g : H2} (hs : smallY l) : PW Tryz.prog W0 88 [.st (xLayer F l), .raw (.int .i64 d)] g (fun y => y = .raw (.bool (widthB d && layB l d))) := by
 obtain ⟨s1, s2, s3, s4, s5, s6, s7, s8⟩ := hs
 refine PW.scalar ?_
 refine begins [[0, 1], [1, 2], [1, 2, 5]] Tryz.func88 rfl (rs := [.tmp 4]) rfl rfl ?_
 intro wf
 repeat (first | rw [ko] | rw [kr] | simp -dsimp -implicitDefEqProofs only [go_sem, rq1, rq2, hoo])
 refine wz_intro l05Width_ok ?_
 rintro _ _ ⟨rfl, rfl⟩
 cases h1 : widthB d
 ·repeat (first | rw [ko] | rw [kr] | simp -dsimp -implicitDefEqProofs only [go_sem, rq1, hoo])
  exact ⟨le_push (H2.le.refl _), ⟨_, rfl⟩, rfl⟩
 repeat (first | rw [ko] | rw [kr] | simp -dsimp -implicitDefEqProofs only [go_sem, rq1, hoo])
 refine wz_intro l05Width_ok ?_
 rintro _ _ ⟨rfl, rfl⟩
 cases h2 : widthB l.up.rows.length
 ·repeat (first | rw [ko] | rw [kr] | simp -dsimp -implicitDefEqProofs only [go_sem, rq1, hoo])
  exact ⟨le_push (H2.le.refl _), ⟨_, rfl⟩, by rw [layB, h2]; simp⟩
 repeat (first | rw [ko] | rw [kr] | simp -dsimp -implicitDefEqProofs only [go_sem, rq1, hoo])
 refine pw_intro (specGain_ok s1) ?_
 rintro _ n3 hn3 rfl
 try simp only [hn_push] at hn3
 cases h3 : gainB l.gain1 d
 ·repeat (first | rw [ko] | rw [kr] | simp -dsimp -implicitDefEqProofs only [go_sem, rq1, hoo])
  exact ⟨le_up (le_push (H2.le.refl _)) (by first | exact hn3 | (simp only [hn_push, hn_up]; omega)), ⟨_, rfl⟩, by rw [layB, h2, h3]; simp⟩
 repeat (first | rw [ko] | rw [kr] | simp -dsimp -implicitDefEqProofs only [go_sem, rq1, hoo])
 refine pw_intro (specGain_ok s2) ?_
 rintro _ n4 hn4 rfl
 try simp only [hn_up] at hn4
 cases h4 : gainB l.gain2 d
 ·repeat (first | rw [ko] | rw [kr] | simp -dsimp -implicitDefEqProofs only [go_sem, rq1, hoo])
  exact ⟨le_up (le_up (le_push (H2.le.refl _)) (by first | exact hn3 | (simp only [hn_push, hn_up]; omega))) (by first | exact hn4 | (simp only [hn_push, hn_up]; omega)), ⟨_, rfl⟩, by rw [layB, h2, h3, h4]; simp⟩
 repeat (first | rw [ko] | rw [kr] | simp -dsimp -implicitDefEqProofs only [go_sem, rq1, hoo])
 refine pw_intro (l10Matrix_ok (F := fun j => F (j + 1)) (m := l.q) s3) ?_
 rintro _ n5 hn5 rfl
 try simp only [hn_up] at hn5
 cases h5 : withB l.q d d
 ·repeat (first | rw [ko] | rw [kr] | simp -dsimp -implicitDefEqProofs only [go_sem, rq1, hoo])
  exact ⟨le_up (le_up (le_up (le_push (H2.le.refl _)) (by first | exact hn3 | (simp only [hn_push, hn_up]; omega))) (by first | exact hn4 | (simp only [hn_push, hn_up]; omega))) (by first | exact hn5 | (simp only [hn_push, hn_up]; omega)), ⟨_, rfl⟩, by rw [layB, h2, h3, h4, h5]; simp⟩
 repeat (first | rw [ko] | rw [kr] | simp -dsimp -implicitDefEqProofs only [go_sem, rq1, hoo])
 refine pw_intro (l10Matrix_ok (F := fun j => F (j + 6)) (m := l.k) s4) ?_
 rintro _ n6 hn6 rfl
 try simp only [hn_up] at hn6
 cases h6 : withB l.k d d
 ·repeat (first | rw [ko] | rw [kr] | simp -dsimp -implicitDefEqProofs only [go_sem, rq1, hoo])
  exact ⟨le_up (le_up (le_up (le_up (le_push (H2.le.refl _)) (by first | exact hn3 | (simp only [hn_push, hn_up]; omega))) (by first | exact hn4 | (simp only [hn_push, hn_up]; omega))) (by first | exact hn5 | (simp only [hn_push, hn_up]; omega))) (by first | exact hn6 | (simp only [hn_push, hn_up]; omega)), ⟨_, rfl⟩, by rw [layB, h2, h3, h4, h5, h6]; simp⟩
 repeat (first | rw [ko] | rw [kr] | simp -dsimp -implicitDefEqProofs only [go_sem, rq1, hoo])
 refine pw_intro (l10Matrix_ok (F := fun j => F (j + 11)) (m := l.v) s5) ?_
 rintro _ n7 hn7 rfl
 try simp only [hn_up] at hn7
 cases h7 : withB l.v d d
 ·repeat (first | rw [ko] | rw [kr] | simp -dsimp -implicitDefEqProofs only [go_sem, rq1, hoo])
  exact ⟨le_up (le_up (le_up (le_up (le_up (le_push (H2.le.refl _)) (by first | exact hn3 | (simp only [hn_push, hn_up]; omega))) (by first | exact hn4 | (simp only [hn_push, hn_up]; omega))) (by first | exact hn5 | (simp only [hn_push, hn_up]; omega))) (by first | exact hn6 | (simp only [hn_push, hn_up]; omega))) (by first | exact hn7 | (simp only [hn_push, hn_up]; omega)), ⟨_, rfl⟩, by rw [layB, h2, h3, h4, h5, h6, h7]; simp⟩
 repeat (first | rw [ko] | rw [kr] | simp -dsimp -implicitDefEqProofs only [go_sem, rq1, hoo])
 refine pw_intro (l10Matrix_ok (F := fun j => F (j + 16)) (m := l.o) s6) ?_
 rintro _ n8 hn8 rfl
 try simp only [hn_up] at hn8
 cases h8 : withB l.o d d
 ·repeat (first | rw [ko] | rw [kr] | simp -dsimp -implicitDefEqProofs only [go_sem, rq1, hoo])
  exact ⟨le_up (le_up (le_up (le_up (le_up (le_up (le_push (H2.le.refl _)) (by first | exact hn3 | (simp only [hn_push, hn_up]; omega))) (by first | exact hn4 | (simp only [hn_push, hn_up]; omega))) (by first | exact hn5 | (simp only [hn_push, hn_up]; omega))) (by first | exact hn6 | (simp only [hn_push, hn_up]; omega))) (by first | exact hn7 | (simp only [hn_push, hn_up]; omega))) (by first | exact hn8 | (simp only [hn_push, hn_up]; omega)), ⟨_, rfl⟩, by rw [layB, h2, h3, h4, h5, h6, h7, h8]; simp⟩
 repeat (first | rw [ko] | rw [kr] | simp -dsimp -implicitDefEqProofs only [go_sem, rq1, hoo])
 refine pw_intro (l10Matrix_ok (F := fun j => F (j + 22)) (m := l.up) s7) ?_
 rintro _ n9 hn9 rfl
 try simp only [hn_up] at hn9
 cases h9 : withB l.up d l.up.rows.length
 ·repeat (first | rw [ko] | rw [kr] | simp -dsimp -implicitDefEqProofs only [go_sem, rq1, hoo])
  exact ⟨le_up (le_up (le_up (le_up (le_up (le_up (le_up (le_push (H2.le.refl _)) (by first | exact hn3 | (simp only [hn_push, hn_up]; omega))) (by first | exact hn4 | (simp only [hn_push, hn_up]; omega))) (by first | exact hn5 | (simp only [hn_push, hn_up]; omega))) (by first | exact hn6 | (simp only [hn_push, hn_up]; omega))) (by first | exact hn7 | (simp only [hn_push, hn_up]; omega))) (by first | exact hn8 | (simp only [hn_push, hn_up]; omega))) (by first | exact hn9 | (simp only [hn_push, hn_up]; omega)), ⟨_, rfl⟩, by rw [layB, h2, h3, h4, h5, h6, h7, h8, h9]; simp⟩
 repeat (first | rw [ko] | rw [kr] | simp -dsimp -implicitDefEqProofs only [go_sem, rq1, hoo])
 refine pw_intro (l10Matrix_ok (F := fun j => F (j + 27)) (m := l.down) s8) ?_
 rintro _ n10 hn10 rfl
 try simp only [hn_up] at hn10
 repeat (first | rw [ko] | rw [kr] | simp -dsimp -implicitDefEqProofs only [go_sem, rq1, hoo])
 exact ⟨le_up (le_up (le_up (le_up (le_up (le_up (le_up (le_up (le_push (H2.le.refl _)) (by first | exact hn3 | (simp only [hn_push, hn_up]; omega))) (by first | exact hn4 | (simp only [hn_push, hn_up]; omega))) (by first | exact hn5 | (simp only [hn_push, hn_up]; omega))) (by first | exact hn6 | (simp only [hn_push, hn_up]; omega))) (by first | exact hn7 | (simp only [hn_push, hn_up]; omega))) (by first | exact hn8 | (simp only [hn_push, hn_up]; omega))) (by first | exact hn9 | (simp only [hn_push, hn_up]; omega))) (by first | exact hn10 | (simp only [hn_push, hn_up]; omega)), ⟨_, rfl⟩, by rw [layB, h2, h3, h4, h5, h6, h7, h8, h9]; simp⟩
theorem implLayer_ok {F : Nat → Adr} {l : LLayer} {d : Int} {g : H2} (hs : smallY l) : PW Tryz.prog W0 127 [.st (xLayer F l), .raw (.int .i64 d)] g (fun y => y = .raw (.bool (layB l d))) := by
 obtain ⟨s1, s2, s3, s4, s5, s6, s7, s8⟩ := hs
 refine PW.scalar ?_
 refine begins [[0, 1], [1, 2], [1, 2, 5], [], [1, 2, 5], [1, 2, 5, 37, 38, 39], [1, 2, 5, 37, 38, 39], [1, 2, 5, 7, 37, 38, 39], [], [1, 2, 5, 37, 38, 39], [1, 2, 5]] Tryz.func127 rfl (rs := [.tmp 4]) rfl rfl ?_
 intro wf
 repeat (first | rw [ko] | rw [kr] | simp -dsimp -implicitDefEqProofs only [go_sem, rq1, rq2, hoo])
 refine pw_intro (implGain_ok s1) ?_
 rintro _ n1 hn1 rfl
 simp only [hn_push] at hn1
 have L1 : ∀ k : OB, g.le ((g.push k).up n1) := fun k => le_up (le_push (H2.le.refl _)) (by rw [hn_push]; exact hn1)
 cases h1 : gainB l.gain1 d
 ·repeat (first | rw [ko] | rw [kr] | simp -dsimp -implicitDefEqProofs only [go_sem, rq1, hoo])
  exact ⟨L1 _, ⟨_, rfl⟩, by rw [layB, h1]; rfl⟩
 repeat (first | rw [ko] | rw [kr] | simp -dsimp -implicitDefEqProofs only [go_sem, rq1, hoo])
 refine pw_intro (implGain_ok s2) ?_
 rintro _ n2 hn2 rfl
 rw [hn_up] at hn2
 have L2 : ∀ k : OB, g.le (((g.push k).up n1).up n2) := fun k => le_up (L1 k) (by rw [hn_up]; exact hn2)
 cases h2 : gainB l.gain2 d
 ·repeat (first | rw [ko] | rw [kr] | simp -dsimp -implicitDefEqProofs only [go_sem, rq1, hoo])
  exact ⟨L2 _, ⟨_, rfl⟩, by rw [layB, h1, h2]; rfl⟩
 repeat (first | rw [ko] | rw [kr] | simp -dsimp -implicitDefEqProofs only [go_sem, rq1, hoo])
 refine wz_intro isWidth_ok ?_
 rintro _ _ ⟨rfl, rfl⟩
 cases h3 : widthB l.up.rows.length
 ·repeat (first | rw [ko] | rw [kr] | simp -dsimp -implicitDefEqProofs only [go_sem, hoo])
  exact ⟨L2 _, ⟨_, rfl⟩, by rw [layB, h1, h2, h3]; rfl⟩
 repeat (first | rw [ko] | rw [kr] | simp -dsimp -implicitDefEqProofs only [go_sem, rq1, rq2, rq3, rq4, hoo])
 have L3 : ∀ k : OB, g.le ((((g.push k).up n1).up n2).up (n2 + 1)) := fun k => le_up (L2 k) (Nat.le_succ _)
 generalize hF : litA n2 4 5 _ = fL
 have hes : ([[.v (.int .i64 l.q.width), .l 1 (rIntSS l.q.rows), .l 1 (rIntSS l.q.scales), .v (.int .i64 l.q.mul), .v (.int .i64 l.q.shift)], [.v (.int .i64 l.k.width), .l 1 (rIntSS l.k.rows), .l 1 (rIntSS l.k.scales), .v (.int .i64 l.k.mul), .v (.int .i64 l.k.shift)], [.v (.int .i64 l.v.width), .l 1 (rIntSS l.v.rows), .l 1 (rIntSS l.v.scales), .v (.int .i64 l.v.mul), .v (.int .i64 l.v.shift)], [.v (.int .i64 l.o.width), .l 1 (rIntSS l.o.rows), .l 1 (rIntSS l.o.scales), .v (.int .i64 l.o.mul), .v (.int .i64 l.o.shift)]] : List (List T)) = rMx [l.q, l.k, l.v, l.o] := rfl
 rw [hes]
 have hsm : ∀ i, i < 4 → smallM (([l.q, l.k, l.v, l.o] : List LMatrix).getD i default) := fun i hi => by
  have hc : i = 0 ∨ i = 1 ∨ i = 2 ∨ i = 3 := by omega
  rcases hc with rfl | rfl | rfl | rfl
  ·exact s3
  ·exact s4
  ·exact s5
  ·exact s6
 have hB : layB l d = ((List.range 4).all (fun i => withB (([l.q, l.k, l.v, l.o] : List LMatrix).getD i default) d d) && (withB l.up d l.up.rows.length && withB l.down l.up.rows.length d)) := by
  rw [layB, h1, h2, h3]
  show _ = ((withB l.q d d && (withB l.k d d && (withB l.v d d && (withB l.o d d && true)))) && _)
  simp only [Bool.and_true, Bool.true_and, Bool.and_assoc]
 have hlen : ([l.q, l.k, l.v, l.o] : List LMatrix).length = 4 := rfl
 generalize ([l.q, l.k, l.v, l.o] : List LMatrix) = Ms at *
 refine lz_keep [1, 2, 5, 37, 38] (fun mm e h' => ∃ (i : Nat), g.le h' ∧ hn g .mk < hn h' .mk ∧ hg h' (hn g .mk) .mk = some ⟨32, xLayer F l⟩ ∧ look e 39 .mk = .raw (.int .i64 (i : Nat)) ∧ mm + i = 4 ∧ ∀ j, j < i → withB (Ms.getD j default) d d = true) 4 ?_ ?_
 ·exact ⟨0, L3 _, by simp only [hn_up]; omega, by simp -dsimp -implicitDefEqProofs only [go_sem, hoo], zsm, by omega, fun j hj => by omega⟩
 ·rintro mm e h' hks ⟨i, hle, hlt, row, ei, hm, hpre⟩
  simp -dsimp -implicitDefEqProofs only [go_sem, rq1] at hks
  simp -dsimp -implicitDefEqProofs only [go_sem] at row
  by_cases q1 : (i : Int) < ((4 : Nat) : Int)
  ·have q2 : i < Ms.length := by omega
   have w1 := zwrs i (by omega)
   repeat (first | rw [ko] | rw [kr] | simp -dsimp -implicitDefEqProofs only [go_sem, rq1, rq2, rq3, hks, ei, q1, q2, hoo])
   refine pw_intro (implWithin_ok (F := fun j => under (under fL i) j) (m := Ms.getD i default) (hsm i (by omega))) ?_
   rintro _ n3 hn3 rfl
   rw [hn_push] at hn3
   have hnx : (hn g .mk == hn h' .mk) = false := zne
   cases q3 : withB (Ms.getD i default) d d
   ·repeat (first | rw [ko] | rw [kr] | simp -dsimp -implicitDefEqProofs only [go_sem, hoo])
    refine ⟨le_up (le_push hle) (by rw [hn_push]; exact hn3), ⟨_, rfl⟩, ?_⟩
    rw [hB, range_bad (show i < 4 by omega) q3]; rfl
   ·repeat (first | rw [ko] | rw [kr] | simp -dsimp -implicitDefEqProofs only [go_sem, rq1, hoo, w1])
    refine nx_keep (mm - 1) (by omega) zsm ⟨i + 1, le_up (le_push hle) (by rw [hn_push]; exact hn3), by simp only [hn_up]; omega, by simp -dsimp -implicitDefEqProofs only [go_sem, hnx, row], zsm, by omega, fun j hj => ?_⟩
    by_cases hji : j = i
    ·subst hji; exact q3
    ·exact hpre j (by omega)
  ·repeat (first | rw [ko] | rw [kr] | simp -dsimp -implicitDefEqProofs only [go_sem, rq1, hks, ei, row, q1, hoo])
   have hall := range_all (n := 4) fun j hj => hpre j (by omega)
   refine pw_intro (implWithin_ok (F := fun j => F (j + 22)) (m := l.up) s7) ?_
   rintro _ n3 hn3 rfl
   cases q3 : withB l.up d l.up.rows.length
   ·repeat (first | rw [ko] | rw [kr] | simp -dsimp -implicitDefEqProofs only [go_sem, rq1, hoo])
    exact ⟨le_up hle hn3, ⟨_, rfl⟩, by rw [hB, hall, q3]; rfl⟩
   repeat (first | rw [ko] | rw [kr] | simp -dsimp -implicitDefEqProofs only [go_sem, rq1, row, hoo])
   refine pw_intro (implWithin_ok (F := fun j => F (j + 27)) (m := l.down) s8) ?_
   rintro _ n4 hn4 rfl
   repeat (first | rw [ko] | rw [kr] | simp -dsimp -implicitDefEqProofs only [go_sem, rq1])
   exact ⟨le_up (le_up hle hn3) hn4, ⟨_, rfl⟩, by rw [hB, hall, q3]; rfl⟩
end Go.Bi
end
section
set_option maxRecDepth 20000
namespace Go.Bi
open Go.Proofs
open Go.Ai (wrap_i64 wrap_u8 Heap)
variable {W0 : World} {P : Program}
set_option maxHeartbeats 4000000
def embB (d : Int) (r : List Int) : Bool := decide ((r.length : Int) = d) && allI r (-127) 127
def vocI (m : LModel) : Int := 256 + (m.merges.length : Int)
def modelB (m : LModel) : Bool :=
 widthB m.dim && (inI m.heads 1 2 && (mergesB m.merges && (decide ((m.embed.length : Int) = vocI m) && (inI m.layers.length 1 2 && (!(m.embed.any fun r => !embB m.dim r) && (!(m.layers.any fun l => !layB l m.dim) &&
  (gainB m.gainEnd m.dim && (withB m.head m.dim (vocI m) && turnsB m.turns m.context (Int.tdiv (Int.tdiv m.dim m.heads) 2)))))))))
def smallMod (m : LModel) : Prop := m.merges.length ≤ 1048576 ∧ smallL m.embed ∧ m.layers.length ≤ 1048576 ∧ (∀ i, i < m.layers.length → smallY (m.layers.getD i default)) ∧ m.gainEnd.length ≤ 1048576 ∧ smallM m.head ∧ smallL m.turns.cos ∧ smallL m.turns.sin
theorem indexY_ok {F : FuncId} {p : LLayer → Bool} {caps : List Value} {f : Adr} {ss : List LLayer} {h : H2} (hn0 : ss.length ≤ 1048576)
  (hf : ∀ (i : Nat), i < ss.length → ∀ (F' : Nat → Adr) (h' : H2), h.le h' → PW Tryz.prog W0 F ([.st (xLayer F' (ss.getD i default))] ++ caps.map .raw) h' (fun v => v = .raw (.bool (p (ss.getD i default))))) :
  PW Tryz.prog W0 158 [.sl f 32 (rLayerS ss), .raw (.func (.func F) #[] caps.toArray)] h (fun v => ∃ k : Int, v = .raw (.int .i64 k) ∧ decide (0 ≤ k) = ss.any p) := by
 refine PW.scalar ((?_ : WC2 _ _ _ _ _ fun v g' => h.le g' ∧ ∃ k : Int, v = .raw (.int .i64 k) ∧ decide (0 ≤ k) = ss.any p).mono fun v g' ⟨h1, k, h2, h3⟩ => ⟨h1, ⟨_, h2⟩, k, h2, h3⟩)
 refine begins [[0, 1], [0, 1], [0, 1, 7, 8], [0, 1, 7, 8], [0, 1, 5, 7, 8], [5], [0, 1, 7, 8], []] Tryz.func158 rfl (rs := [.tmp 4]) rfl rfl ?_
 intro wf
 repeat (first | rw [ko] | rw [kr] | simp -dsimp -implicitDefEqProofs only [go_sem])
 refine lz_keep [0, 1, 7] (fun m e h' => h.le h' ∧ ∃ k : Nat, look e 8 .mk = .raw (.int .i64 k) ∧ m + k = ss.length ∧ ∀ j : Nat, j < k → p (ss.getD j default) = false) ss.length ?_ ?_
 ·exact ⟨H2.le.refl _, 0, zsm, by omega, fun j hj => by omega⟩
 ·rintro m e h' hks ⟨hle, k, e8, hk, hpre⟩
  simp -dsimp -implicitDefEqProofs only [go_sem, rq1] at hks
  repeat (first | rw [ko] | rw [kr] | simp -dsimp -implicitDefEqProofs only [go_sem, hks, e8])
  refine gz_dec (fun h2 => ?_) (fun h2 => ?_)
  ·have h3 : k < ss.length := by omega
   repeat (first | rw [ko] | rw [kr] | simp -dsimp -implicitDefEqProofs only [go_sem, rq1, rq2, rq3, h3])
   refine pw_intro (hf k h3 (fun j => under (under f k) j) _ hle) ?_
   rintro _ n hn1 rfl
   repeat (first | rw [ko] | rw [kr] | simp -dsimp -implicitDefEqProofs only [go_sem])
   refine gz_intro (fun h4 => ?_) (fun h4 => ?_)
   ·repeat (first | rw [ko] | rw [kr] | simp -dsimp -implicitDefEqProofs only [go_sem, rq1])
    exact ⟨le_up hle hn1, _, rfl, by rw [any_getD h3 h4]; simp⟩
   ·repeat (first | rw [ko] | rw [kr] | simp -dsimp -implicitDefEqProofs only [go_sem, rq1, wrap_succ h3 (by omega)])
    refine nx_keep (m - 1) (by omega) zsm ⟨le_up hle hn1, k + 1, zsm, by omega, fun j hj => ?_⟩
    by_cases hji : j = k
    ·subst hji; exact h4
    ·exact hpre j (by omega)
  ·repeat (first | rw [ko] | rw [kr] | simp -dsimp -implicitDefEqProofs only [go_sem])
   exact ⟨hle, _, rfl, by rw [any_none fun j hj => hpre j (by omega)]; rfl⟩
theorem containsY_ok {F : FuncId} {p : LLayer → Bool} {caps : List Value} {f : Adr} {ss : List LLayer} {h : H2} (hn0 : ss.length ≤ 1048576)
  (hf : ∀ (i : Nat), i < ss.length → ∀ (F' : Nat → Adr) (h' : H2), h.le h' → PW Tryz.prog W0 F ([.st (xLayer F' (ss.getD i default))] ++ caps.map .raw) h' (fun v => v = .raw (.bool (p (ss.getD i default))))) :
  PW Tryz.prog W0 125 [.sl f 32 (rLayerS ss), .raw (.func (.func F) #[] caps.toArray)] h (fun v => v = .raw (.bool (ss.any p))) := by
 refine PW.scalar ?_
 refine begins [[0, 1], [0, 1]] Tryz.func125 rfl (rs := [.tmp 4]) rfl rfl ?_
 intro wf
 repeat (first | rw [ko] | rw [kr] | simp -dsimp -implicitDefEqProofs only [go_sem])
 refine pw_intro (indexY_ok hn0 hf) ?_
 rintro _ n hn1 ⟨k, rfl, hk⟩
 repeat (first | rw [ko] | rw [kr] | simp -dsimp -implicitDefEqProofs only [go_sem, hk])
 exact ⟨le_up (H2.le.refl _) hn1, ⟨_, rfl⟩, rfl⟩
theorem emb1_ok {f : Adr} {r : List Int} {b : Nat} {d : Int} {ks : List X} {h : H2} (hb : hg h b .mk = some ⟨14, .raw (.int .i64 d) :: ks⟩) (hl : r.length ≤ 1048576) : PW Tryz.prog W0 123 [.sl f 1 (ints r), .raw (.pointer (some ⟨b, 0, none⟩))] h (fun y => y = .raw (.bool (!embB d r))) := by
 refine PW.scalar ?_
 refine begins [[0, 1], [0, 1]] Tryz.func123 rfl (rs := [.tmp 3]) rfl rfl ?_
 intro wf
 by_cases h1 : (r.length : Int) = d
 ·have d1 : decide ((r.length : Int) = d) = true := decide_eq_true h1
  have e1 : decide (¬ (r.length : Int) = d) = false := decide_eq_false (fun h => h h1)
  repeat (first | rw [ko] | rw [kr] | simp -dsimp -implicitDefEqProofs only [go_sem, rq1, hb, e1])
  refine pw_intro (allIn_ok (by omega)) ?_
  rintro _ n1 hn1 rfl
  repeat (first | rw [ko] | rw [kr] | simp -dsimp -implicitDefEqProofs only [go_sem])
  exact ⟨le_up (H2.le.refl _) hn1, ⟨_, rfl⟩, by rw [embB, d1]; rfl⟩
 ·have d1 : decide ((r.length : Int) = d) = false := decide_eq_false h1
  have e1 : decide (¬ (r.length : Int) = d) = true := decide_eq_true h1
  repeat (first | rw [ko] | rw [kr] | simp -dsimp -implicitDefEqProofs only [go_sem, hb, e1])
  exact ⟨H2.le.refl _, ⟨_, rfl⟩, by rw [embB, d1]; rfl⟩
theorem lay1_ok {F : Nat → Adr} {l : LLayer} {b : Nat} {d : Int} {ks : List X} {h : H2} (hbn : b < hn h .mk) (hb : hg h b .mk = some ⟨14, .raw (.int .i64 d) :: ks⟩) (hl : smallY l) : PW Tryz.prog W0 126 [.st (xLayer F l), .raw (.pointer (some ⟨b, 0, none⟩))] h (fun y => y = .raw (.bool (!layB l d))) := by
 refine PW.scalar ?_
 refine begins [[0, 1], [1, 2]] Tryz.func126 rfl (rs := [.tmp 3]) rfl rfl ?_
 intro wf
 have hne : (b == hn h .mk) = false := zne
 repeat (first | rw [ko] | rw [kr] | simp -dsimp -implicitDefEqProofs only [go_sem, hb, hne, hoo])
 refine pw_intro (implLayer_ok (F := F) hl) ?_
 rintro _ n1 hn1 rfl
 rw [hn_push] at hn1
 repeat (first | rw [ko] | rw [kr] | simp -dsimp -implicitDefEqProofs only [go_sem])
 exact ⟨le_up (le_push (H2.le.refl _)) (by rw [hn_push]; exact hn1), ⟨_, rfl⟩, rfl⟩
theorem voc1_ok {F : Nat → Adr} {m : LModel} {h : H2} (hl : m.merges.length ≤ 1048576) : PW Tryz.prog W0 121 [.st (xModel F m)] h (fun y => y = .raw (.int .i64 (vocI m))) := by
 refine PW.scalar ?_
 refine begins [[0], [1]] Tryz.func121 rfl (rs := [.tmp 2]) rfl rfl ?_
 intro wf
 have w1 : IntKind.i64.wrap (256 + (m.merges.length : Int)) = 256 + (m.merges.length : Int) := by rw [wrap_i64] <;> omega
 repeat (first | rw [ko] | rw [kr] | simp -dsimp -implicitDefEqProofs only [go_sem, hoo, w1])
 exact ⟨le_push (H2.le.refl _), ⟨_, rfl⟩, rfl⟩
theorem voc2_ok {F : Nat → Adr} {m : LModel} {h : H2} (hl : m.merges.length ≤ 1048576) : PW Tryz.prog W0 86 [.st (xModel F m)] h (fun y => y = .raw (.int .i64 (vocI m))) := by
 refine PW.scalar ?_
 refine begins [[0], [1]] Tryz.func86 rfl (rs := [.tmp 2]) rfl rfl ?_
 intro wf
 have w1 : IntKind.i64.wrap (256 + (m.merges.length : Int)) = 256 + (m.merges.length : Int) := by rw [wrap_i64] <;> omega
 repeat (first | rw [ko] | rw [kr] | simp -dsimp -implicitDefEqProofs only [go_sem, hoo, w1])
 exact ⟨le_push (H2.le.refl _), ⟨_, rfl⟩, rfl⟩
end Go.Bi
end
section
set_option maxRecDepth 20000
namespace Go.Bi
open Go.Proofs
open Go.Ai (wrap_i64 wrap_u8 Heap)
variable {W0 : World} {P : Program}
set_option maxHeartbeats 4000000
theorem heads_eq {x : Int} : inI x 1 2 = (decide (x = 1) || decide (x = 2)) := by
 rw [Bool.eq_iff_iff]
 simp only [inI, Bool.and_eq_true, Bool.or_eq_true, decide_eq_true_eq]
 omega
theorem specModel_ok {F : Nat → Adr} {m : LModel} {g : H2} (hs : smallMod m) : PW Tryz.prog W0 63 [.st (xModel F m)] g (fun y => y = .raw (.bool (modelB m))) := by
 obtain ⟨s1, s2, s3, s4, s5, s6, s7, s8⟩ := hs
 refine PW.scalar ?_
 refine begins [[0], [1], [], [1], [1, 3], [1, 3], [1, 3], [], [1], [1, 4], [1, 4], [1, 4], [], [1]] Tryz.func63 rfl (rs := [.tmp 2]) rfl rfl ?_
 intro wf
 repeat (first | rw [ko] | rw [kr] | simp -dsimp -implicitDefEqProofs only [go_sem, hoo])
 refine dq_intro [(0, []), (1, []), (2, []), (3, []), (4, []), (5, []), (6, []), (7, []), (8, []), (9, []), (10, []), (11, []), (12, []), (13, []), (14, []), (15, []), (16, []), (17, []), (18, []), (19, []), (20, []), (21, []), (22, []), (23, []), (24, []), (25, [22]), (26, []), (27, []), (28, []), (29, []), (30, []), (31, []), (32, []), (33, []), (34, [])] (by kernel_rfl) ?_
 repeat (first | rw [ko] | rw [kr] | simp -dsimp -implicitDefEqProofs only [go_sem, hoo])
 refine wz_intro l05Width_ok ?_
 rintro _ _ ⟨rfl, rfl⟩
 cases h1 : widthB m.dim
 ·repeat (first | rw [ko] | rw [kr] | simp -dsimp -implicitDefEqProofs only [go_sem, rq1, hoo])
  exact ⟨le_push (H2.le.refl _), ⟨_, rfl⟩, by rw [modelB, h1]; rfl⟩
 by_cases h2 : m.heads = 1 ∨ m.heads = 2
 rotate_left
 ·have e1 : decide (¬ m.heads = 1) = true := decide_eq_true (fun h => h2 (.inl h))
  have e2 : decide (¬ m.heads = 2) = true := decide_eq_true (fun h => h2 (.inr h))
  repeat (first | rw [ko] | rw [kr] | simp -dsimp -implicitDefEqProofs only [go_sem, rq1, hoo, e1, e2])
  exact ⟨le_push (H2.le.refl _), ⟨_, rfl⟩, by rw [modelB, h1, heads_eq, decide_eq_false (fun h => h2 (.inl h)), decide_eq_false (fun h => h2 (.inr h))]; rfl⟩
 have heq : inI m.heads 1 2 = true := by
  rw [heads_eq]
  rcases h2 with h2 | h2 <;> rw [h2] <;> rfl
 have mid : ∀ {A : Prop}, (decide (¬ m.heads = 1) = false → A) → (decide (¬ m.heads = 1) = true → decide (¬ m.heads = 2) = false → A) → A := fun a b => by
  rcases h2 with h2 | h2
  ·exact a (decide_eq_false (fun h => h h2))
  ·exact b (decide_eq_true (by omega)) (decide_eq_false (fun h => h h2))
 refine mid (fun e1 => ?_) (fun e1 e2 => ?_)
 ·repeat (first | rw [ko] | rw [kr] | simp -dsimp -implicitDefEqProofs only [go_sem, rq1, hoo, e1])
  refine pw_intro (specMergesOk_ok s1) ?_
  rintro _ n1 hn1 rfl
  try (rw [kq]; refine ⟨zsm, ?_⟩)
  cases h3 : mergesB m.merges
  ·repeat (first | rw [ko] | rw [kr] | simp -dsimp -implicitDefEqProofs only [go_sem, rq1, hoo])
   exact ⟨zale, ⟨_, rfl⟩, by rw [modelB, h1, heq, h3]; rfl⟩
  repeat (first | rw [ko] | rw [kr] | simp -dsimp -implicitDefEqProofs only [go_sem, rq1, hoo])
  refine pw_intro (voc2_ok (F := F) (m := m) s1) ?_
  rintro _ n2 hn2 rfl
  try (rw [kq]; refine ⟨by simp -dsimp -implicitDefEqProofs only [go_sem, rq1, hoo], ?_⟩)
  by_cases h4 : (m.embed.length : Int) = vocI m
  rotate_left
  ·have e4 : decide (¬ (m.embed.length : Int) = vocI m) = true := decide_eq_true h4
   repeat (first | rw [ko] | rw [kr] | simp -dsimp -implicitDefEqProofs only [go_sem, rq1, hoo, e4])
   exact ⟨zale, ⟨_, rfl⟩, by rw [modelB, h1, heq, h3, decide_eq_false h4]; rfl⟩
  have e4 : decide (¬ (m.embed.length : Int) = vocI m) = false := decide_eq_false (fun h => h h4)
  repeat (first | rw [ko] | rw [kr] | simp -dsimp -implicitDefEqProofs only [go_sem, rq1, hoo, e4])
  refine wz_intro l01In_ok ?_
  rintro _ _ ⟨rfl, rfl⟩
  try (rw [kq]; refine ⟨zsm, ?_⟩)
  cases h5 : inI m.layers.length 1 2
  ·repeat (first | rw [ko] | rw [kr] | simp -dsimp -implicitDefEqProofs only [go_sem, rq1, hoo])
   exact ⟨zale, ⟨_, rfl⟩, by rw [modelB, h1, heq, h3, decide_eq_true h4, h5]; rfl⟩
  repeat (first | rw [ko] | rw [kr] | simp -dsimp -implicitDefEqProofs only [go_sem, rq1, hoo])
  simp only [hn_up, hn_push] at hn1 hn2
  refine lz_keep [1] (fun mm e h' => ∃ (i : Nat), g.le h' ∧ hn g .mk < hn h' .mk ∧ hg h' (hn g .mk) .mk = some ⟨14, [.raw (.int .i64 m.dim), .raw (.int .i64 m.heads), .raw (.int .i64 m.context), .sl (F 3) 2 (rMergeS m.merges), .sl (F 4) 1 (rIntSS m.embed), .sl (F 5) 32 (rLayerS m.layers), .sl (F 6) 1 (ints m.gainEnd), .raw (.int .i64 m.head.width), .sl (F 8) 1 (rIntSS m.head.rows), .sl (F 9) 1 (rIntSS m.head.scales), .raw (.int .i64 m.head.mul), .raw (.int .i64 m.head.shift), .sl (F 12) 1 (rIntSS m.turns.cos), .sl (F 13) 1 (rIntSS m.turns.sin)]⟩ ∧ look e 3 .mk = .raw (.int .i64 (i : Nat)) ∧ mm + i = m.embed.length ∧ ∀ j, j < i → embB m.dim (m.embed.getD j default) = true) m.embed.length ?_ ?_
  ·exact ⟨0, zale, by simp only [hn_up]; omega, by simp -dsimp -implicitDefEqProofs only [go_sem, hoo], zsm, by omega, fun j hj => by omega⟩
  rintro mm e h' hks ⟨i, hle, hlt, row, ei, hm, hpre⟩
  simp -dsimp -implicitDefEqProofs only [go_sem] at hks
  by_cases q1 : (i : Int) < (m.embed.length : Int)
  ·have q2 : i < m.embed.length := by omega
   have hsz := s2.1
   have w1 := zwrs i (by omega)
   have bad : embB m.dim (m.embed.getD i default) = false → modelB m = false := fun h => by
    rw [modelB, h1, heq, h3, decide_eq_true h4, h5, any_getD (p := fun r => !embB m.dim r) q2 (by simp only [h]; rfl)]; rfl
   by_cases q4 : ((m.embed.getD i default).length : Int) = m.dim
   ·have e5 : decide (¬ ((m.embed.getD i default).length : Int) = m.dim) = false := decide_eq_false (fun h => h q4)
    repeat (first | rw [ko] | rw [kr] | simp -dsimp -implicitDefEqProofs only [go_sem, rq1, hks, ei, q1, row])
    refine dq_intro [(0, []), (1, []), (2, []), (3, []), (4, []), (5, []), (6, []), (7, []), (8, []), (9, []), (10, []), (11, []), (12, []), (13, []), (14, []), (15, []), (16, []), (17, [])] (by kernel_rfl) ?_
    repeat (first | rw [ko] | rw [kr] | simp -dsimp -implicitDefEqProofs only [go_sem, rq1, q2, row, e5])
    refine pw_intro (l05All_ok (by have := smallL_at s2 i; omega)) ?_
    rintro _ n3 hn3 rfl
    cases q5 : allI (m.embed.getD i default) (-127) 127
    ·repeat (first | rw [ko] | rw [kr] | simp -dsimp -implicitDefEqProofs only [go_sem, rq1])
     exact ⟨le_up hle hn3, ⟨_, rfl⟩, by rw [bad (by rw [embB, q5, Bool.and_false])]⟩
    ·repeat (first | rw [ko] | rw [kr] | simp -dsimp -implicitDefEqProofs only [go_sem, rq1, w1])
     refine nx_keep (mm - 1) (by omega) zsm ⟨i + 1, le_up hle hn3, by simp only [hn_up]; omega, by simp -dsimp -implicitDefEqProofs only [go_sem, row], zsm, by omega, fun j hj => ?_⟩
     by_cases hji : j = i
     ·subst hji; rw [embB, decide_eq_true q4, q5]; rfl
     ·exact hpre j (by omega)
   ·have e5 : decide (¬ ((m.embed.getD i default).length : Int) = m.dim) = true := decide_eq_true q4
    repeat (first | rw [ko] | rw [kr] | simp -dsimp -implicitDefEqProofs only [go_sem, rq1, hks, ei, q1, row])
    refine dq_intro [(0, []), (1, []), (2, []), (3, []), (4, []), (5, []), (6, []), (7, []), (8, []), (9, []), (10, []), (11, []), (12, []), (13, []), (14, []), (15, []), (16, []), (17, [])] (by kernel_rfl) ?_
    repeat (first | rw [ko] | rw [kr] | simp -dsimp -implicitDefEqProofs only [go_sem, rq1, q2, row, e5])
    exact ⟨hle, ⟨_, rfl⟩, by rw [bad (by rw [embB, decide_eq_false q4]; rfl)]⟩
  have h6 : (m.embed.any fun r => !embB m.dim r) = false := any_none fun j hj => by rw [hpre j (by omega)]; rfl
  repeat (first | rw [ko] | rw [kr] | simp -dsimp -implicitDefEqProofs only [go_sem, rq1, hks, ei, q1, row])
  refine lz_keep [1] (fun m2 e2 h2' => ∃ (k : Nat), g.le h2' ∧ hn g .mk < hn h2' .mk ∧ hg h2' (hn g .mk) .mk = some ⟨14, [.raw (.int .i64 m.dim), .raw (.int .i64 m.heads), .raw (.int .i64 m.context), .sl (F 3) 2 (rMergeS m.merges), .sl (F 4) 1 (rIntSS m.embed), .sl (F 5) 32 (rLayerS m.layers), .sl (F 6) 1 (ints m.gainEnd), .raw (.int .i64 m.head.width), .sl (F 8) 1 (rIntSS m.head.rows), .sl (F 9) 1 (rIntSS m.head.scales), .raw (.int .i64 m.head.mul), .raw (.int .i64 m.head.shift), .sl (F 12) 1 (rIntSS m.turns.cos), .sl (F 13) 1 (rIntSS m.turns.sin)]⟩ ∧ look e2 4 .mk = .raw (.int .i64 (k : Nat)) ∧ m2 + k = m.layers.length ∧ ∀ j, j < k → layB (m.layers.getD j default) m.dim = true) m.layers.length ?_ ?_
  ·exact ⟨0, hle, hlt, row, zsm, by omega, fun j hj => by omega⟩
  rintro m2 e2 h2' hks2 ⟨k, hle2, hlt2, row2, ek, hm2, hpre2⟩
  simp -dsimp -implicitDefEqProofs only [go_sem] at hks2
  by_cases q1 : (k : Int) < (m.layers.length : Int)
  ·have q2 : k < m.layers.length := by omega
   have w1 := zwrs k (by omega)
   repeat (first | rw [ko] | rw [kr] | simp -dsimp -implicitDefEqProofs only [go_sem, rq1, hks2, ek, q1, row2])
   refine dq_intro [(0, []), (1, []), (2, []), (3, []), (4, []), (5, []), (6, []), (7, []), (8, [])] (by kernel_rfl) ?_
   repeat (first | rw [ko] | rw [kr] | simp -dsimp -implicitDefEqProofs only [go_sem, rq1, rq2, rq3, q2, row2])
   refine pw_intro (specLayer_ok (F := fun j => under (under (F 5) k) j) (l := m.layers.getD k default) (s4 k q2)) ?_
   rintro _ n3 hn3 rfl
   rw [h1, Bool.true_and]
   cases q5 : layB (m.layers.getD k default) m.dim
   ·repeat (first | rw [ko] | rw [kr] | simp -dsimp -implicitDefEqProofs only [go_sem])
    exact ⟨le_up hle2 hn3, ⟨_, rfl⟩, by rw [modelB, h1, heq, h3, decide_eq_true h4, h5, h6, any_getD (p := fun l => !layB l m.dim) q2 (by simp only [q5]; rfl)]; rfl⟩
   ·repeat (first | rw [ko] | rw [kr] | simp -dsimp -implicitDefEqProofs only [go_sem, rq1, w1])
    refine nx_keep (m2 - 1) (by omega) zsm ⟨k + 1, le_up hle2 hn3, by simp only [hn_up]; omega, by simp -dsimp -implicitDefEqProofs only [go_sem, row2], zsm, by omega, fun j hj => ?_⟩
    by_cases hji : j = k
    ·subst hji; exact q5
    ·exact hpre2 j (by omega)
  have h7 : (m.layers.any fun l => !layB l m.dim) = false := any_none fun j hj => by rw [hpre2 j (by omega)]; rfl
  repeat (first | rw [ko] | rw [kr] | simp -dsimp -implicitDefEqProofs only [go_sem, rq1, hks2, ek, q1, row2])
  refine dq_intro [(0, []), (1, []), (2, []), (3, []), (4, []), (5, []), (6, []), (7, []), (8, []), (9, []), (10, []), (11, [7, 9]), (12, []), (13, []), (14, []), (15, []), (16, []), (17, []), (18, []), (19, []), (20, []), (21, []), (22, []), (23, []), (24, []), (25, []), (26, []), (27, [])] (by kernel_rfl) ?_
  repeat (first | rw [ko] | rw [kr] | simp -dsimp -implicitDefEqProofs only [go_sem, rq1, row2, hoo])
  refine pw_intro (specGain_ok s5) ?_
  rintro _ n5 hn5 rfl
  try (rw [kq]; refine ⟨zsm, ?_⟩)
  cases h8 : gainB m.gainEnd m.dim
  ·repeat (first | rw [ko] | rw [kr] | simp -dsimp -implicitDefEqProofs only [go_sem, rq1, hoo])
   exact ⟨zale, ⟨_, rfl⟩, by rw [modelB, h1, heq, h3, decide_eq_true h4, h5, h6, h7, h8]; rfl⟩
  repeat (first | rw [ko] | rw [kr] | simp -dsimp -implicitDefEqProofs only [go_sem, rq1, row2, hoo])
  refine pw_intro (voc2_ok (F := F) (m := m) s1) ?_
  rintro _ n6 hn6 rfl
  simp only [hn_up] at hn6
  try (rw [kq]; refine ⟨by simp -dsimp -implicitDefEqProofs only [go_sem, rq1, row2, hoo], ?_⟩)
  repeat (first | rw [ko] | rw [kr] | simp -dsimp -implicitDefEqProofs only [go_sem, rq1, hoo])
  refine pw_intro (l10Matrix_ok (F := fun j => F (j + 7)) (m := m.head) s6) ?_
  rintro _ n7 hn7 rfl
  simp only [hn_up] at hn7
  try (rw [kq]; refine ⟨zsm, ?_⟩)
  cases h9 : withB m.head m.dim (vocI m)
  ·repeat (first | rw [ko] | rw [kr] | simp -dsimp -implicitDefEqProofs only [go_sem, rq1, hoo])
   exact ⟨zale, ⟨_, rfl⟩, by rw [modelB, h1, heq, h3, decide_eq_true h4, h5, h6, h7, h8, h9]; rfl⟩
  have hw := width_rng h1
  have hh : m.heads = 1 ∨ m.heads = 2 := by have := inI_tt heq; omega
  have z0 : (m.heads == 0) = false := zne
  have w1 : IntKind.i64.wrap (Int.tdiv m.dim m.heads) = Int.tdiv m.dim m.heads := by
   rcases hw with hw | hw <;> rcases hh with hh | hh <;> rw [hw, hh] <;> decide
  have w2 : IntKind.i64.wrap (Int.tdiv (Int.tdiv m.dim m.heads) 2) = Int.tdiv (Int.tdiv m.dim m.heads) 2 := by
   rcases hw with hw | hw <;> rcases hh with hh | hh <;> rw [hw, hh] <;> decide
  repeat (first | rw [ko] | rw [kr] | simp -dsimp -implicitDefEqProofs only [go_sem, rq1, rq7, row2, hoo, z0, w1, w2])
  refine pw_intro (specTurns_ok (F := fun j => F (j + 12)) (t := m.turns) s7 s8) ?_
  rintro _ n8 hn8 rfl
  simp only [hn_up] at hn8
  try (rw [kq]; refine ⟨zsm, ?_⟩)
  repeat (first | rw [ko] | rw [kr] | simp -dsimp -implicitDefEqProofs only [go_sem, rq1, hoo])
  exact ⟨zale, ⟨_, rfl⟩, by rw [modelB, h1, heq, h3, decide_eq_true h4, h5, h6, h7, h8, h9]; rfl⟩
 ·repeat (first | rw [ko] | rw [kr] | simp -dsimp -implicitDefEqProofs only [go_sem, rq1, hoo, e1, e2])
  refine pw_intro (specMergesOk_ok s1) ?_
  rintro _ n1 hn1 rfl
  try (rw [kq]; refine ⟨zsm, ?_⟩)
  cases h3 : mergesB m.merges
  ·repeat (first | rw [ko] | rw [kr] | simp -dsimp -implicitDefEqProofs only [go_sem, rq1, hoo])
   exact ⟨zale, ⟨_, rfl⟩, by rw [modelB, h1, heq, h3]; rfl⟩
  repeat (first | rw [ko] | rw [kr] | simp -dsimp -implicitDefEqProofs only [go_sem, rq1, hoo])
  refine pw_intro (voc2_ok (F := F) (m := m) s1) ?_
  rintro _ n2 hn2 rfl
  try (rw [kq]; refine ⟨by simp -dsimp -implicitDefEqProofs only [go_sem, rq1, hoo], ?_⟩)
  by_cases h4 : (m.embed.length : Int) = vocI m
  rotate_left
  ·have e4 : decide (¬ (m.embed.length : Int) = vocI m) = true := decide_eq_true h4
   repeat (first | rw [ko] | rw [kr] | simp -dsimp -implicitDefEqProofs only [go_sem, rq1, hoo, e4])
   exact ⟨zale, ⟨_, rfl⟩, by rw [modelB, h1, heq, h3, decide_eq_false h4]; rfl⟩
  have e4 : decide (¬ (m.embed.length : Int) = vocI m) = false := decide_eq_false (fun h => h h4)
  repeat (first | rw [ko] | rw [kr] | simp -dsimp -implicitDefEqProofs only [go_sem, rq1, hoo, e4])
  refine wz_intro l01In_ok ?_
  rintro _ _ ⟨rfl, rfl⟩
  try (rw [kq]; refine ⟨zsm, ?_⟩)
  cases h5 : inI m.layers.length 1 2
  ·repeat (first | rw [ko] | rw [kr] | simp -dsimp -implicitDefEqProofs only [go_sem, rq1, hoo])
   exact ⟨zale, ⟨_, rfl⟩, by rw [modelB, h1, heq, h3, decide_eq_true h4, h5]; rfl⟩
  repeat (first | rw [ko] | rw [kr] | simp -dsimp -implicitDefEqProofs only [go_sem, rq1, hoo])
  simp only [hn_up, hn_push] at hn1 hn2
  refine lz_keep [1] (fun mm e h' => ∃ (i : Nat), g.le h' ∧ hn g .mk < hn h' .mk ∧ hg h' (hn g .mk) .mk = some ⟨14, [.raw (.int .i64 m.dim), .raw (.int .i64 m.heads), .raw (.int .i64 m.context), .sl (F 3) 2 (rMergeS m.merges), .sl (F 4) 1 (rIntSS m.embed), .sl (F 5) 32 (rLayerS m.layers), .sl (F 6) 1 (ints m.gainEnd), .raw (.int .i64 m.head.width), .sl (F 8) 1 (rIntSS m.head.rows), .sl (F 9) 1 (rIntSS m.head.scales), .raw (.int .i64 m.head.mul), .raw (.int .i64 m.head.shift), .sl (F 12) 1 (rIntSS m.turns.cos), .sl (F 13) 1 (rIntSS m.turns.sin)]⟩ ∧ look e 3 .mk = .raw (.int .i64 (i : Nat)) ∧ mm + i = m.embed.length ∧ ∀ j, j < i → embB m.dim (m.embed.getD j default) = true) m.embed.length ?_ ?_
  ·exact ⟨0, zale, by simp only [hn_up]; omega, by simp -dsimp -implicitDefEqProofs only [go_sem, hoo], zsm, by omega, fun j hj => by omega⟩
  rintro mm e h' hks ⟨i, hle, hlt, row, ei, hm, hpre⟩
  simp -dsimp -implicitDefEqProofs only [go_sem] at hks
  by_cases q1 : (i : Int) < (m.embed.length : Int)
  ·have q2 : i < m.embed.length := by omega
   have hsz := s2.1
   have w1 := zwrs i (by omega)
   have bad : embB m.dim (m.embed.getD i default) = false → modelB m = false := fun h => by
    rw [modelB, h1, heq, h3, decide_eq_true h4, h5, any_getD (p := fun r => !embB m.dim r) q2 (by simp only [h]; rfl)]; rfl
   by_cases q4 : ((m.embed.getD i default).length : Int) = m.dim
   ·have e5 : decide (¬ ((m.embed.getD i default).length : Int) = m.dim) = false := decide_eq_false (fun h => h q4)
    repeat (first | rw [ko] | rw [kr] | simp -dsimp -implicitDefEqProofs only [go_sem, rq1, hks, ei, q1, row])
    refine dq_intro [(0, []), (1, []), (2, []), (3, []), (4, []), (5, []), (6, []), (7, []), (8, []), (9, []), (10, []), (11, []), (12, []), (13, []), (14, []), (15, []), (16, []), (17, [])] (by kernel_rfl) ?_
    repeat (first | rw [ko] | rw [kr] | simp -dsimp -implicitDefEqProofs only [go_sem, rq1, q2, row, e5])
    refine pw_intro (l05All_ok (by have := smallL_at s2 i; omega)) ?_
    rintro _ n3 hn3 rfl
    cases q5 : allI (m.embed.getD i default) (-127) 127
    ·repeat (first | rw [ko] | rw [kr] | simp -dsimp -implicitDefEqProofs only [go_sem, rq1])
     exact ⟨le_up hle hn3, ⟨_, rfl⟩, by rw [bad (by rw [embB, q5, Bool.and_false])]⟩
    ·repeat (first | rw [ko] | rw [kr] | simp -dsimp -implicitDefEqProofs only [go_sem, rq1, w1])
     refine nx_keep (mm - 1) (by omega) zsm ⟨i + 1, le_up hle hn3, by simp only [hn_up]; omega, by simp -dsimp -implicitDefEqProofs only [go_sem, row], zsm, by omega, fun j hj => ?_⟩
     by_cases hji : j = i
     ·subst hji; rw [embB, decide_eq_true q4, q5]; rfl
     ·exact hpre j (by omega)
   ·have e5 : decide (¬ ((m.embed.getD i default).length : Int) = m.dim) = true := decide_eq_true q4
    repeat (first | rw [ko] | rw [kr] | simp -dsimp -implicitDefEqProofs only [go_sem, rq1, hks, ei, q1, row])
    refine dq_intro [(0, []), (1, []), (2, []), (3, []), (4, []), (5, []), (6, []), (7, []), (8, []), (9, []), (10, []), (11, []), (12, []), (13, []), (14, []), (15, []), (16, []), (17, [])] (by kernel_rfl) ?_
    repeat (first | rw [ko] | rw [kr] | simp -dsimp -implicitDefEqProofs only [go_sem, rq1, q2, row, e5])
    exact ⟨hle, ⟨_, rfl⟩, by rw [bad (by rw [embB, decide_eq_false q4]; rfl)]⟩
  have h6 : (m.embed.any fun r => !embB m.dim r) = false := any_none fun j hj => by rw [hpre j (by omega)]; rfl
  repeat (first | rw [ko] | rw [kr] | simp -dsimp -implicitDefEqProofs only [go_sem, rq1, hks, ei, q1, row])
  refine lz_keep [1] (fun m2 e2 h2' => ∃ (k : Nat), g.le h2' ∧ hn g .mk < hn h2' .mk ∧ hg h2' (hn g .mk) .mk = some ⟨14, [.raw (.int .i64 m.dim), .raw (.int .i64 m.heads), .raw (.int .i64 m.context), .sl (F 3) 2 (rMergeS m.merges), .sl (F 4) 1 (rIntSS m.embed), .sl (F 5) 32 (rLayerS m.layers), .sl (F 6) 1 (ints m.gainEnd), .raw (.int .i64 m.head.width), .sl (F 8) 1 (rIntSS m.head.rows), .sl (F 9) 1 (rIntSS m.head.scales), .raw (.int .i64 m.head.mul), .raw (.int .i64 m.head.shift), .sl (F 12) 1 (rIntSS m.turns.cos), .sl (F 13) 1 (rIntSS m.turns.sin)]⟩ ∧ look e2 4 .mk = .raw (.int .i64 (k : Nat)) ∧ m2 + k = m.layers.length ∧ ∀ j, j < k → layB (m.layers.getD j default) m.dim = true) m.layers.length ?_ ?_
  ·exact ⟨0, hle, hlt, row, zsm, by omega, fun j hj => by omega⟩
  rintro m2 e2 h2' hks2 ⟨k, hle2, hlt2, row2, ek, hm2, hpre2⟩
  simp -dsimp -implicitDefEqProofs only [go_sem] at hks2
  by_cases q1 : (k : Int) < (m.layers.length : Int)
  ·have q2 : k < m.layers.length := by omega
   have w1 := zwrs k (by omega)
   repeat (first | rw [ko] | rw [kr] | simp -dsimp -implicitDefEqProofs only [go_sem, rq1, hks2, ek, q1, row2])
   refine dq_intro [(0, []), (1, []), (2, []), (3, []), (4, []), (5, []), (6, []), (7, []), (8, [])] (by kernel_rfl) ?_
   repeat (first | rw [ko] | rw [kr] | simp -dsimp -implicitDefEqProofs only [go_sem, rq1, rq2, rq3, q2, row2])
   refine pw_intro (specLayer_ok (F := fun j => under (under (F 5) k) j) (l := m.layers.getD k default) (s4 k q2)) ?_
   rintro _ n3 hn3 rfl
   rw [h1, Bool.true_and]
   cases q5 : layB (m.layers.getD k default) m.dim
   ·repeat (first | rw [ko] | rw [kr] | simp -dsimp -implicitDefEqProofs only [go_sem])
    exact ⟨le_up hle2 hn3, ⟨_, rfl⟩, by rw [modelB, h1, heq, h3, decide_eq_true h4, h5, h6, any_getD (p := fun l => !layB l m.dim) q2 (by simp only [q5]; rfl)]; rfl⟩
   ·repeat (first | rw [ko] | rw [kr] | simp -dsimp -implicitDefEqProofs only [go_sem, rq1, w1])
    refine nx_keep (m2 - 1) (by omega) zsm ⟨k + 1, le_up hle2 hn3, by simp only [hn_up]; omega, by simp -dsimp -implicitDefEqProofs only [go_sem, row2], zsm, by omega, fun j hj => ?_⟩
    by_cases hji : j = k
    ·subst hji; exact q5
    ·exact hpre2 j (by omega)
  have h7 : (m.layers.any fun l => !layB l m.dim) = false := any_none fun j hj => by rw [hpre2 j (by omega)]; rfl
  repeat (first | rw [ko] | rw [kr] | simp -dsimp -implicitDefEqProofs only [go_sem, rq1, hks2, ek, q1, row2])
  refine dq_intro [(0, []), (1, []), (2, []), (3, []), (4, []), (5, []), (6, []), (7, []), (8, []), (9, []), (10, []), (11, [7, 9]), (12, []), (13, []), (14, []), (15, []), (16, []), (17, []), (18, []), (19, []), (20, []), (21, []), (22, []), (23, []), (24, []), (25, []), (26, []), (27, [])] (by kernel_rfl) ?_
  repeat (first | rw [ko] | rw [kr] | simp -dsimp -implicitDefEqProofs only [go_sem, rq1, row2, hoo])
  refine pw_intro (specGain_ok s5) ?_
  rintro _ n5 hn5 rfl
  try (rw [kq]; refine ⟨zsm, ?_⟩)
  cases h8 : gainB m.gainEnd m.dim
  ·repeat (first | rw [ko] | rw [kr] | simp -dsimp -implicitDefEqProofs only [go_sem, rq1, hoo])
   exact ⟨zale, ⟨_, rfl⟩, by rw [modelB, h1, heq, h3, decide_eq_true h4, h5, h6, h7, h8]; rfl⟩
  repeat (first | rw [ko] | rw [kr] | simp -dsimp -implicitDefEqProofs only [go_sem, rq1, row2, hoo])
  refine pw_intro (voc2_ok (F := F) (m := m) s1) ?_
  rintro _ n6 hn6 rfl
  simp only [hn_up] at hn6
  try (rw [kq]; refine ⟨by simp -dsimp -implicitDefEqProofs only [go_sem, rq1, row2, hoo], ?_⟩)
  repeat (first | rw [ko] | rw [kr] | simp -dsimp -implicitDefEqProofs only [go_sem, rq1, hoo])
  refine pw_intro (l10Matrix_ok (F := fun j => F (j + 7)) (m := m.head) s6) ?_
  rintro _ n7 hn7 rfl
  simp only [hn_up] at hn7
  try (rw [kq]; refine ⟨zsm, ?_⟩)
  cases h9 : withB m.head m.dim (vocI m)
  ·repeat (first | rw [ko] | rw [kr] | simp -dsimp -implicitDefEqProofs only [go_sem, rq1, hoo])
   exact ⟨zale, ⟨_, rfl⟩, by rw [modelB, h1, heq, h3, decide_eq_true h4, h5, h6, h7, h8, h9]; rfl⟩
  have hw := width_rng h1
  have hh : m.heads = 1 ∨ m.heads = 2 := by have := inI_tt heq; omega
  have z0 : (m.heads == 0) = false := zne
  have w1 : IntKind.i64.wrap (Int.tdiv m.dim m.heads) = Int.tdiv m.dim m.heads := by
   rcases hw with hw | hw <;> rcases hh with hh | hh <;> rw [hw, hh] <;> decide
  have w2 : IntKind.i64.wrap (Int.tdiv (Int.tdiv m.dim m.heads) 2) = Int.tdiv (Int.tdiv m.dim m.heads) 2 := by
   rcases hw with hw | hw <;> rcases hh with hh | hh <;> rw [hw, hh] <;> decide
  repeat (first | rw [ko] | rw [kr] | simp -dsimp -implicitDefEqProofs only [go_sem, rq1, rq7, row2, hoo, z0, w1, w2])
  refine pw_intro (specTurns_ok (F := fun j => F (j + 12)) (t := m.turns) s7 s8) ?_
  rintro _ n8 hn8 rfl
  simp only [hn_up] at hn8
  try (rw [kq]; refine ⟨zsm, ?_⟩)
  repeat (first | rw [ko] | rw [kr] | simp -dsimp -implicitDefEqProofs only [go_sem, rq1, hoo])
  exact ⟨zale, ⟨_, rfl⟩, by rw [modelB, h1, heq, h3, decide_eq_true h4, h5, h6, h7, h8, h9]; rfl⟩
end Go.Bi
end
