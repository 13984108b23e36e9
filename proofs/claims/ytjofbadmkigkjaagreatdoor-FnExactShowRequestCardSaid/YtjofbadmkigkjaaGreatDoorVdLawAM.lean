/- Own lemmas that the theorem of this claim needs: the abstract machine and walks of functions. -/
import Derived.Test.YtjofbadmkigkjaaGreatDoorVdLawAL
set_option linter.unusedSimpArgs false
set_option linter.unusedVariables false
open Nat renaming reduceBEq → rq1, reduceAdd → rq2, reduceLeDiff → rq3, reduceMul → rq4
open Int renaming reduceLE → rq5, reduceLT → rq6, reduceBEq → rq7
section
set_option maxRecDepth 20000
namespace Go.Bi
open Go.Proofs
open Go.Ai (wrap_i64 wrap_u8 Heap)
variable {W0 : World} {P : Program}
set_option maxHeartbeats 4000000
theorem l14Parts_ok {f : Adr} {F : Nat → Adr} {l : List (List LPart)} {m : LModel} {g : H2} (hd : m.dim = 4 ∨ m.dim = 8) (hk : m.heads = 1 ∨ m.heads = 2) (hs : smallPP l) : PW Tryz.prog W0 151 [.sl f 1 (rPartSS l), .st (xModel F m)] g (fun y => y = .raw (.bool (layersB l m))) := by
 obtain ⟨s1, s2⟩ := id hs
 refine PW.scalar ?_
 refine begins [[0, 1], [0, 3], [], [0, 3], [0, 3, 5], [0, 3, 5], [0, 3, 5], [], [0, 3, 5], [0, 3, 5, 6], [0, 3, 5, 6], [0, 3, 5, 6], [], []] Tryz.func151 rfl (rs := [.tmp 4]) rfl rfl ?_
 intro wf
 have z0 : (m.heads == 0) = false := zne
 have w0 : IntKind.i64.wrap (Int.tdiv m.dim m.heads) = Int.tdiv m.dim m.heads := by
  rcases hd with hd | hd <;> rcases hk with hk | hk <;> rw [hd, hk] <;> decide
 by_cases h1 : (l.length : Int) = m.layers.length
 rotate_left
 ·have e1 : decide (¬ (l.length : Int) = m.layers.length) = true := decide_eq_true h1
  repeat (first | rw [ko] | rw [kr] | simp -dsimp -implicitDefEqProofs only [go_sem, rq1, hoo, e1])
  exact ⟨le_push (H2.le.refl _), ⟨_, rfl⟩, by rw [layersB, decide_eq_false h1]; rfl⟩
 have e1 : decide (¬ (l.length : Int) = m.layers.length) = false := decide_eq_false (fun h => h h1)
 have hB : layersB l m = !(l.any fun x => !partsB x m.heads (Int.tdiv m.dim m.heads)) := by rw [layersB, decide_eq_true h1]; rfl
 repeat (first | rw [ko] | rw [kr] | simp -dsimp -implicitDefEqProofs only [go_sem, rq1, hoo, e1])
 refine lz_keep [0, 3] (fun mm e h' => ∃ (i : Nat), g.le h' ∧ hg h' (hn g .mk) .mk = some ⟨14, [.raw (.int .i64 m.dim), .raw (.int .i64 m.heads), .raw (.int .i64 m.context), .sl (F 3) 2 (rMergeS m.merges), .sl (F 4) 1 (rIntSS m.embed), .sl (F 5) 32 (rLayerS m.layers), .sl (F 6) 1 (ints m.gainEnd), .raw (.int .i64 m.head.width), .sl (F 8) 1 (rIntSS m.head.rows), .sl (F 9) 1 (rIntSS m.head.scales), .raw (.int .i64 m.head.mul), .raw (.int .i64 m.head.shift), .sl (F 12) 1 (rIntSS m.turns.cos), .sl (F 13) 1 (rIntSS m.turns.sin)]⟩ ∧ look e 5 .mk = .raw (.int .i64 (i : Nat)) ∧ mm + i = l.length ∧ ∀ j, j < i → partsB (l.getD j default) m.heads (Int.tdiv m.dim m.heads) = true) l.length ?_ ?_
 ·exact ⟨0, le_push (H2.le.refl _), by simp -dsimp -implicitDefEqProofs only [go_sem, hoo], zsm, by omega, fun j hj => by omega⟩
 rintro mm e h' hks ⟨i, hle, row, ei, hm, hpre⟩
 simp -dsimp -implicitDefEqProofs only [go_sem, rq1] at hks
 by_cases q1 : (i : Int) < (l.length : Int)
 rotate_left
 ·repeat (first | rw [ko] | rw [kr] | simp -dsimp -implicitDefEqProofs only [go_sem, rq1, hks, ei, q1])
  exact ⟨hle, ⟨_, rfl⟩, by rw [hB, any_none fun j hj => by rw [hpre j (by omega)]; rfl]; rfl⟩
 have q2 : i < l.length := by omega
 have s3 := s2 i q2
 have w1 := zwrs i (by omega)
 have bad : partsB (l.getD i default) m.heads (Int.tdiv m.dim m.heads) = false → layersB l m = false := fun h => by
  rw [hB, any_getD (p := fun x => !partsB x m.heads (Int.tdiv m.dim m.heads)) q2 (by simp only [h]; rfl)]; rfl
 by_cases q4 : ((l.getD i default).length : Int) = m.heads
 rotate_left
 ·have e4 : decide (¬ ((l.getD i default).length : Int) = m.heads) = true := decide_eq_true q4
  repeat (first | rw [ko] | rw [kr] | simp -dsimp -implicitDefEqProofs only [go_sem, rq1, hks, ei, q1])
  refine dq_intro [(0, []), (1, []), (2, []), (3, []), (4, []), (5, []), (6, []), (7, [])] (by kernel_rfl) ?_
  repeat (first | rw [ko] | rw [kr] | simp -dsimp -implicitDefEqProofs only [go_sem, rq1, q2, row, e4])
  exact ⟨hle, ⟨_, rfl⟩, by rw [bad (by rw [partsB, decide_eq_false q4]; rfl)]⟩
 have e4 : decide (¬ ((l.getD i default).length : Int) = m.heads) = false := decide_eq_false (fun h => h q4)
 repeat (first | rw [ko] | rw [kr] | simp -dsimp -implicitDefEqProofs only [go_sem, rq1, hks, ei, q1])
 refine dq_intro [(0, []), (1, []), (2, []), (3, []), (4, []), (5, []), (6, []), (7, [])] (by kernel_rfl) ?_
 repeat (first | rw [ko] | rw [kr] | simp -dsimp -implicitDefEqProofs only [go_sem, rq1, q2, row, e4])
 refine lz_keep [0, 3, 5] (fun m2 e2 h2' => ∃ (k : Nat), g.le h2' ∧ hg h2' (hn g .mk) .mk = some ⟨14, [.raw (.int .i64 m.dim), .raw (.int .i64 m.heads), .raw (.int .i64 m.context), .sl (F 3) 2 (rMergeS m.merges), .sl (F 4) 1 (rIntSS m.embed), .sl (F 5) 32 (rLayerS m.layers), .sl (F 6) 1 (ints m.gainEnd), .raw (.int .i64 m.head.width), .sl (F 8) 1 (rIntSS m.head.rows), .sl (F 9) 1 (rIntSS m.head.scales), .raw (.int .i64 m.head.mul), .raw (.int .i64 m.head.shift), .sl (F 12) 1 (rIntSS m.turns.cos), .sl (F 13) 1 (rIntSS m.turns.sin)]⟩ ∧ look e2 6 .mk = .raw (.int .i64 (k : Nat)) ∧ m2 + k = (l.getD i default).length ∧ ∀ j, j < k → partN (Int.tdiv m.dim m.heads) ((l.getD i default).getD j default) = true) (l.getD i default).length ?_ ?_
 ·exact ⟨0, hle, row, zsm, by omega, fun j hj => by omega⟩
 rintro m2 e2 h2' hks2 ⟨k, hle2, row2, ek, hm2, hpre2⟩
 simp -dsimp -implicitDefEqProofs only [go_sem, rq1] at hks2
 by_cases q5 : (k : Int) < ((l.getD i default).length : Int)
 ·have q6 : k < (l.getD i default).length := by omega
  have w2 : IntKind.i64.wrap ((k : Int) + 1) = ((k + 1 : Nat) : Int) := by rw [wrap_i64] <;> have := s3.1 <;> omega
  repeat (first | rw [ko] | rw [kr] | simp -dsimp -implicitDefEqProofs only [go_sem, rq1, hks2, ek, q2, q5])
  refine dq_intro [(0, []), (1, []), (2, []), (3, []), (4, []), (5, []), (6, []), (7, []), (8, []), (9, []), (10, []), (11, []), (12, []), (13, [])] (by kernel_rfl) ?_
  repeat (first | rw [ko] | rw [kr] | simp -dsimp -implicitDefEqProofs only [go_sem, rq1, rq2, rq3, q2, q6, row2, z0, w0])
  refine pw_intro (specPart_ok (F := fun j => under (under (under (under f i) 0) k) j) (p := (l.getD i default).getD k default) (s3.2 k q6)) ?_
  rintro _ n3 hn3 rfl
  cases q7 : partN (Int.tdiv m.dim m.heads) ((l.getD i default).getD k default)
  ·have q8 : (partB ((l.getD i default).getD k default) && decide ((((l.getD i default).getD k default).values.length : Int) = Int.tdiv m.dim m.heads)) = false := q7
   rw [q8]
   repeat (first | rw [ko] | rw [kr] | simp -dsimp -implicitDefEqProofs only [go_sem])
   exact ⟨le_up hle2 hn3, ⟨_, rfl⟩, by rw [bad (by rw [partsB, any_getD (p := fun x => !partN (Int.tdiv m.dim m.heads) x) q6 (by simp only [q7]; rfl)]; simp)]⟩
  ·have q8 : (partB ((l.getD i default).getD k default) && decide ((((l.getD i default).getD k default).values.length : Int) = Int.tdiv m.dim m.heads)) = true := q7
   rw [q8]
   repeat (first | rw [ko] | rw [kr] | simp -dsimp -implicitDefEqProofs only [go_sem, rq1, w2])
   refine nx_keep (m2 - 1) (by omega) zsm ⟨k + 1, le_up hle2 hn3, by simp -dsimp -implicitDefEqProofs only [go_sem, row2], zsm, by omega, fun j hj => ?_⟩
   by_cases hji : j = k
   ·subst hji; exact q7
   ·exact hpre2 j (by omega)
 ·repeat (first | rw [ko] | rw [kr] | simp -dsimp -implicitDefEqProofs only [go_sem, rq1, hks2, ek, q2, q5, w1])
  refine nx_keep (mm - 1) (by omega) zsm ⟨i + 1, hle2, row2, zsm, by omega, fun j hj => ?_⟩
  by_cases hji : j = i
  ·subst hji
   rw [partsB, decide_eq_true q4, any_none fun x hx => by rw [hpre2 x (by omega)]; rfl]; rfl
  ·exact hpre j (by omega)
theorem l14Cell_ok {F F' : Nat → Adr} {c : LCell} {m : LModel} {g : H2} (hd : m.dim = 4 ∨ m.dim = 8) (hk : m.heads = 1 ∨ m.heads = 2) (hs : smallPP c.keys ∧ smallPP c.values) : PW Tryz.prog W0 116 [.st (xCell F' c), .st (xModel F m)] g (fun y => y = .raw (.bool (cellB c m))) := by
 refine PW.scalar ?_
 refine begins [[0, 1], [2, 3]] Tryz.func116 rfl (rs := [.tmp 4]) rfl rfl ?_
 intro wf
 have hne : (hn g .mk == hn g .mk + 1) = false := by simp
 repeat (first | rw [ko] | rw [kr] | simp -dsimp -implicitDefEqProofs only [go_sem, hoo, hne])
 refine pw_intro (l14Parts_ok (F := F) hd hk hs.1) ?_
 rintro _ n1 hn1 rfl
 simp only [hn_push] at hn1
 cases h1 : layersB c.keys m
 ·repeat (first | rw [ko] | rw [kr] | simp -dsimp -implicitDefEqProofs only [go_sem, hoo])
  exact ⟨le_up (le_push (le_push (H2.le.refl _))) (by simp only [hn_push]; exact hn1), ⟨_, rfl⟩, by rw [cellB, h1]; rfl⟩
 repeat (first | rw [ko] | rw [kr] | simp -dsimp -implicitDefEqProofs only [go_sem, rq1, hoo, hne])
 refine pw_intro (l14Parts_ok (F := F) hd hk hs.2) ?_
 rintro _ n2 hn2 rfl
 rw [hn_up] at hn2
 repeat (first | rw [ko] | rw [kr] | simp -dsimp -implicitDefEqProofs only [go_sem])
 exact ⟨le_up (le_up (le_push (le_push (H2.le.refl _))) (by simp only [hn_push]; exact hn1)) (by rw [hn_up]; exact hn2), ⟨_, rfl⟩, by rw [cellB, h1]; rfl⟩
end Go.Bi
end
section
set_option maxRecDepth 20000
namespace Go.Bi
open Go.Proofs
open Go.Ai (wrap_i64 wrap_u8 Heap)
variable {W0 : World} {P : Program}
set_option maxHeartbeats 4000000
def needI (n : Int) : Int := if n ≤ 0 then 0 else Int.tdiv (n - 1) 4 + 1
theorem implNeed_ok {n : Int} {g : H2} (hn0 : n ≤ 9223372036854775807) : WC2 Tryz.prog W0 134 [.raw (.int .i64 n)] g (fun v g' => v = .raw (.int .i64 (needI n)) ∧ g' = g) := by
 refine begins [[0], [0], [], [0]] Tryz.func134 rfl (rs := [.tmp 2]) rfl rfl ?_
 intro wf
 repeat (first | rw [ko] | rw [kr] | simp -dsimp -implicitDefEqProofs only [go_sem])
 refine gz_dec (fun h1 => ?_) (fun h1 => ?_)
 ·repeat (first | rw [ko] | rw [kr] | simp -dsimp -implicitDefEqProofs only [go_sem])
  exact ⟨by rw [needI, if_pos h1], rfl⟩
 ·obtain ⟨k, rfl⟩ : ∃ k : Nat, n = (k : Int) + 1 := ⟨(n - 1).toNat, by omega⟩
  have w1 : IntKind.i64.wrap ((k : Int) + 1 - 1) = (k : Int) := by rw [wrap_i64] <;> omega
  have e1 : Int.tdiv (k : Int) 4 = ((k / 4 : Nat) : Int) := rfl
  have w2 : IntKind.i64.wrap (Int.tdiv (k : Int) 4) = ((k / 4 : Nat) : Int) := by rw [e1, wrap_i64] <;> omega
  have w3 : IntKind.i64.wrap (((k / 4 : Nat) : Int) + 1) = ((k / 4 : Nat) : Int) + 1 := by rw [wrap_i64] <;> omega
  repeat (first | rw [ko] | rw [kr] | simp -dsimp -implicitDefEqProofs only [go_sem, rq7, w1, w2, w3])
  exact ⟨by rw [needI, if_neg h1, show (k : Int) + 1 - 1 = (k : Int) by omega]; rfl, rfl⟩
theorem specNeed_ok {n : Int} {g : H2} (hn0 : n ≤ 9223372036854775807) : WC2 Tryz.prog W0 96 [.raw (.int .i64 n)] g (fun v g' => v = .raw (.int .i64 (needI n)) ∧ g' = g) := by
 refine begins [[0], [0], [], [0]] Tryz.func96 rfl (rs := [.tmp 2]) rfl rfl ?_
 intro wf
 repeat (first | rw [ko] | rw [kr] | simp -dsimp -implicitDefEqProofs only [go_sem])
 refine gz_dec (fun h1 => ?_) (fun h1 => ?_)
 ·repeat (first | rw [ko] | rw [kr] | simp -dsimp -implicitDefEqProofs only [go_sem])
  exact ⟨by rw [needI, if_pos h1], rfl⟩
 ·obtain ⟨k, rfl⟩ : ∃ k : Nat, n = (k : Int) + 1 := ⟨(n - 1).toNat, by omega⟩
  have w1 : IntKind.i64.wrap ((k : Int) + 1 - 1) = (k : Int) := by rw [wrap_i64] <;> omega
  have e1 : Int.tdiv (k : Int) 4 = ((k / 4 : Nat) : Int) := rfl
  have w2 : IntKind.i64.wrap (Int.tdiv (k : Int) 4) = ((k / 4 : Nat) : Int) := by rw [e1, wrap_i64] <;> omega
  have w3 : IntKind.i64.wrap (((k / 4 : Nat) : Int) + 1) = ((k / 4 : Nat) : Int) + 1 := by rw [wrap_i64] <;> omega
  repeat (first | rw [ko] | rw [kr] | simp -dsimp -implicitDefEqProofs only [go_sem, rq7, w1, w2, w3])
  exact ⟨by rw [needI, if_neg h1, show (k : Int) + 1 - 1 = (k : Int) by omega]; rfl, rfl⟩
theorem indexC_ok {F : FuncId} {p : LCell → Bool} {caps : List Value} {f : Adr} {ss : List LCell} {h : H2} (hn0 : ss.length ≤ 1048576)
  (hf : ∀ (i : Nat), i < ss.length → ∀ (F' : Nat → Adr) (h' : H2), h.le h' → PW Tryz.prog W0 F ([.st (xCell F' (ss.getD i default))] ++ caps.map .raw) h' (fun v => v = .raw (.bool (p (ss.getD i default))))) :
  PW Tryz.prog W0 166 [.sl f 2 (rCellS ss), .raw (.func (.func F) #[] caps.toArray)] h (fun v => ∃ k : Int, v = .raw (.int .i64 k) ∧ decide (0 ≤ k) = ss.any p) := by
 refine PW.scalar ((?_ : WC2 _ _ _ _ _ fun v g' => h.le g' ∧ ∃ k : Int, v = .raw (.int .i64 k) ∧ decide (0 ≤ k) = ss.any p).mono fun v g' ⟨h1, k, h2, h3⟩ => ⟨h1, ⟨_, h2⟩, k, h2, h3⟩)
 refine begins [[0, 1], [0, 1], [0, 1, 7, 8], [0, 1, 7, 8], [0, 1, 5, 7, 8], [5], [0, 1, 7, 8], []] Tryz.func166 rfl (rs := [.tmp 4]) rfl rfl ?_
 intro wf
 repeat (first | rw [ko] | rw [kr] | simp -dsimp -implicitDefEqProofs only [go_sem])
 refine lz_keep [0, 1, 7] (fun m e h' => h.le h' ∧ ∃ k : Nat, look e 8 .mk = .raw (.int .i64 k) ∧ m + k = ss.length ∧ ∀ j : Nat, j < k → p (ss.getD j default) = false) ss.length ?_ ?_
 ·exact ⟨H2.le.refl _, 0, zsm, by omega, fun j hj => by omega⟩
 ·rintro m e h' hks ⟨hle, k, e8, hk, hpre⟩
  simp -dsimp -implicitDefEqProofs only [go_sem, rq1] at hks
  repeat (first | rw [ko] | rw [kr] | simp -dsimp -implicitDefEqProofs only [go_sem, hks, e8])
  refine gz_dec (fun h2 => ?_) (fun h2 => ?_)
  ·have h3 : k < ss.length := by omega
   repeat (first | rw [ko] | rw [kr] | simp -dsimp -implicitDefEqProofs only [go_sem, rq1, rq2, rq3, h3])
   refine pw_intro (hf k h3 (fun j => under (under f k) j) _ hle) ?_
   rintro _ n hn1 rfl
   repeat (first | rw [ko] | rw [kr] | simp -dsimp -implicitDefEqProofs only [go_sem])
   refine gz_intro (fun h4 => ?_) (fun h4 => ?_)
   ·repeat (first | rw [ko] | rw [kr] | simp -dsimp -implicitDefEqProofs only [go_sem, rq1])
    exact ⟨le_up hle hn1, _, rfl, by rw [any_getD h3 h4]; simp⟩
   ·repeat (first | rw [ko] | rw [kr] | simp -dsimp -implicitDefEqProofs only [go_sem, rq1, wrap_succ h3 (by omega)])
    refine nx_keep (m - 1) (by omega) zsm ⟨le_up hle hn1, k + 1, zsm, by omega, fun j hj => ?_⟩
    by_cases hji : j = k
    ·subst hji; exact h4
    ·exact hpre j (by omega)
  ·repeat (first | rw [ko] | rw [kr] | simp -dsimp -implicitDefEqProofs only [go_sem])
   exact ⟨hle, _, rfl, by rw [any_none fun j hj => hpre j (by omega)]; rfl⟩
theorem containsC_ok {F : FuncId} {p : LCell → Bool} {caps : List Value} {f : Adr} {ss : List LCell} {h : H2} (hn0 : ss.length ≤ 1048576)
  (hf : ∀ (i : Nat), i < ss.length → ∀ (F' : Nat → Adr) (h' : H2), h.le h' → PW Tryz.prog W0 F ([.st (xCell F' (ss.getD i default))] ++ caps.map .raw) h' (fun v => v = .raw (.bool (p (ss.getD i default))))) :
  PW Tryz.prog W0 135 [.sl f 2 (rCellS ss), .raw (.func (.func F) #[] caps.toArray)] h (fun v => v = .raw (.bool (ss.any p))) := by
 refine PW.scalar ?_
 refine begins [[0, 1], [0, 1]] Tryz.func135 rfl (rs := [.tmp 4]) rfl rfl ?_
 intro wf
 repeat (first | rw [ko] | rw [kr] | simp -dsimp -implicitDefEqProofs only [go_sem])
 refine pw_intro (indexC_ok hn0 hf) ?_
 rintro _ n hn1 ⟨k, rfl, hk⟩
 repeat (first | rw [ko] | rw [kr] | simp -dsimp -implicitDefEqProofs only [go_sem, hk])
 exact ⟨le_up (H2.le.refl _) hn1, ⟨_, rfl⟩, rfl⟩
end Go.Bi
end
section
set_option maxRecDepth 20000
namespace Go.Bi
open Go.Proofs
open Go.Ai (wrap_i64 wrap_u8 Heap)
variable {W0 : World} {P : Program}
set_option maxHeartbeats 4000000
def smallC (l : List LCell) : Prop := l.length ≤ 1048576 ∧ ∀ i, i < l.length → smallPP (l.getD i default).keys ∧ smallPP (l.getD i default).values
theorem l18Cells_ok {f : Adr} {F : Nat → Adr} {l : List LCell} {m : LModel} {g : H2} (hd : m.dim = 4 ∨ m.dim = 8) (hk : m.heads = 1 ∨ m.heads = 2) (hs : smallC l) : PW Tryz.prog W0 97 [.st (xModel F m), .sl f 2 (rCellS l)] g (fun y => y = .raw (.bool (!(l.any fun c => !cellB c m)))) := by
 obtain ⟨s1, s2⟩ := id hs
 refine PW.scalar ?_
 refine begins [[0, 1], [1, 2], [1, 2, 5], [1, 2, 5], [1, 2, 5], [], []] Tryz.func97 rfl (rs := [.tmp 4]) rfl rfl ?_
 intro wf
 repeat (first | rw [ko] | rw [kr] | simp -dsimp -implicitDefEqProofs only [go_sem, hoo])
 refine lz_keep [1, 2] (fun mm e h' => ∃ (i : Nat), g.le h' ∧ hg h' (hn g .mk) .mk = some ⟨14, [.raw (.int .i64 m.dim), .raw (.int .i64 m.heads), .raw (.int .i64 m.context), .sl (F 3) 2 (rMergeS m.merges), .sl (F 4) 1 (rIntSS m.embed), .sl (F 5) 32 (rLayerS m.layers), .sl (F 6) 1 (ints m.gainEnd), .raw (.int .i64 m.head.width), .sl (F 8) 1 (rIntSS m.head.rows), .sl (F 9) 1 (rIntSS m.head.scales), .raw (.int .i64 m.head.mul), .raw (.int .i64 m.head.shift), .sl (F 12) 1 (rIntSS m.turns.cos), .sl (F 13) 1 (rIntSS m.turns.sin)]⟩ ∧ look e 5 .mk = .raw (.int .i64 (i : Nat)) ∧ mm + i = l.length ∧ ∀ j, j < i → cellB (l.getD j default) m = true) l.length ?_ ?_
 ·exact ⟨0, le_push (H2.le.refl _), by simp -dsimp -implicitDefEqProofs only [go_sem, hoo], zsm, by omega, fun j hj => by omega⟩
 rintro mm e h' hks ⟨i, hle, row, ei, hm, hpre⟩
 simp -dsimp -implicitDefEqProofs only [go_sem] at hks
 by_cases q1 : (i : Int) < (l.length : Int)
 ·have q2 : i < l.length := by omega
  have w1 := zwrs i (by omega)
  repeat (first | rw [ko] | rw [kr] | simp -dsimp -implicitDefEqProofs only [go_sem, rq1, hks, ei, q1])
  refine dq_intro [(0, []), (1, []), (2, []), (3, []), (4, []), (5, []), (6, [])] (by kernel_rfl) ?_
  repeat (first | rw [ko] | rw [kr] | simp -dsimp -implicitDefEqProofs only [go_sem, rq1, rq2, rq3, q2, row])
  refine pw_intro (l14Cell_ok (F := F) (F' := fun j => under (under f i) j) (c := l.getD i default) hd hk (s2 i q2)) ?_
  rintro _ n3 hn3 rfl
  cases q5 : cellB (l.getD i default) m
  ·repeat (first | rw [ko] | rw [kr] | simp -dsimp -implicitDefEqProofs only [go_sem])
   exact ⟨le_up hle hn3, ⟨_, rfl⟩, by rw [any_getD (p := fun c => !cellB c m) q2 (by simp only [q5]; rfl)]; rfl⟩
  ·repeat (first | rw [ko] | rw [kr] | simp -dsimp -implicitDefEqProofs only [go_sem, rq1, w1])
   refine nx_keep (mm - 1) (by omega) zsm ⟨i + 1, le_up hle hn3, by simp -dsimp -implicitDefEqProofs only [go_sem, row], zsm, by omega, fun j hj => ?_⟩
   by_cases hji : j = i
   ·subst hji; exact q5
   ·exact hpre j (by omega)
 ·repeat (first | rw [ko] | rw [kr] | simp -dsimp -implicitDefEqProofs only [go_sem, rq1, hks, ei, q1])
  exact ⟨hle, ⟨_, rfl⟩, by rw [any_none fun j hj => by rw [hpre j (by omega)]; rfl]; rfl⟩
end Go.Bi
end
section
set_option maxRecDepth 20000
namespace Go.Bi
open Go.Proofs
open Go.Ai (wrap_i64 wrap_u8 Heap)
variable {W0 : World} {P : Program}
set_option maxHeartbeats 2000000
theorem indexZ_ok {f : Adr} {l : List Int} {x : Int} {g : H2} (hl : l.length ≤ 1048576) : WC2 Tryz.prog W0 187 [.sl f 1 (ints l), .raw (.int .i64 x)] g (fun v g' => (∃ k : Int, v = .raw (.int .i64 k) ∧ (0 ≤ k ↔ x ∈ l)) ∧ g' = g) := by
 refine begins [[0, 1], [0, 1], [0, 1, 7, 8], [0, 1, 7, 8], [0, 1, 5, 7, 8], [5], [0, 1, 7, 8], []] Tryz.func187 rfl (rs := [.tmp 4]) rfl rfl ?_
 intro wf
 repeat (first | rw [ko] | rw [kr] | simp -dsimp -implicitDefEqProofs only [go_sem])
 refine lz_keep [0, 1, 7] (fun s e h' => ∃ i : Nat, h' = g ∧ look e 8 .mk = .raw (.int .i64 (i : Nat)) ∧ s + i = l.length ∧ ∀ j, j < i → l.getD j default ≠ x) l.length ?_ ?_
 ·exact ⟨0, rfl, zsm, by omega, fun j hj => by omega⟩
 rintro s e h' hks ⟨i, rfl, e8, hsi, hpre⟩
 simp -dsimp -implicitDefEqProofs only [go_sem, rq1] at hks
 by_cases h1 : (i : Int) < (l.length : Int)
 ·have hi : i < l.length := by omega
  by_cases hm : x = l.getD i default
  ·have d1 : decide (x = l.getD i default) = true := decide_eq_true hm
   repeat (first | rw [ko] | rw [kr] | simp -dsimp -implicitDefEqProofs only [go_sem, rq1, hks, e8, h1, hi, d1])
   exact ⟨⟨_, rfl, ⟨fun _ => by rw [hm]; exact getD_memZ hi, fun _ => by omega⟩⟩, rfl⟩
  ·have d1 : decide (x = l.getD i default) = false := decide_eq_false hm
   repeat (first | rw [ko] | rw [kr] | simp -dsimp -implicitDefEqProofs only [go_sem, rq1, hks, e8, h1, hi, d1, wrap_succ hi (by omega)])
   refine nx_keep (s - 1) (by omega) zsm ⟨i + 1, rfl, zsm, by omega, fun j hj => ?_⟩
   by_cases hji : j = i
   ·subst hji; exact fun e => hm e.symm
   ·exact hpre j (by omega)
 ·repeat (first | rw [ko] | rw [kr] | simp -dsimp -implicitDefEqProofs only [go_sem, hks, e8, h1])
  refine ⟨⟨_, rfl, ⟨fun h => absurd h (by decide), fun hm => ?_⟩⟩, rfl⟩
  obtain ⟨j, hj, e⟩ := List.getElem_of_mem hm
  refine absurd ?_ (hpre j (by omega))
  rw [List.getD_eq_getElem?_getD, List.getElem?_eq_getElem hj]; exact e
theorem containsZ_ok {f : Adr} {l : List Int} {x : Int} {g : H2} (hl : l.length ≤ 1048576) : WC2 Tryz.prog W0 164 [.sl f 1 (ints l), .raw (.int .i64 x)] g (fun v g' => v = .raw (.bool (decide (x ∈ l))) ∧ g' = g) := by
 refine begins [[0, 1], [0, 1]] Tryz.func164 rfl (rs := [.tmp 4]) rfl rfl ?_
 intro wf
 repeat (first | rw [ko] | rw [kr] | simp -dsimp -implicitDefEqProofs only [go_sem])
 refine wz_intro (indexZ_ok hl) ?_
 rintro _ _ ⟨⟨k, rfl, hk⟩, rfl⟩
 have hd : decide (0 ≤ k) = decide (x ∈ l) := decide_eq_decide.2 hk
 repeat (first | rw [ko] | rw [kr] | simp -dsimp -implicitDefEqProofs only [go_sem, hd])
 exact ⟨rfl, rfl⟩
theorem equalZ_ok {f f' : Adr} {l l' : List Int} {g : H2} (hl : l.length ≤ 1048576) : WC2 Tryz.prog W0 106 [.sl f 1 (ints l), .sl f' 1 (ints l')] g (fun v g' => v = .raw (.bool (decide (l = l'))) ∧ g' = g) := by
 refine begins [[0, 1], [0, 1], [], [0, 1], [0, 1, 12, 13], [0, 1, 12, 13], [0, 1, 5, 12, 13], [], [0, 1, 12, 13], []] Tryz.func106 rfl (rs := [.tmp 4]) rfl rfl ?_
 intro wf
 by_cases h1 : (l.length : Int) = l'.length
 rotate_left
 ·have e1 : decide (¬ (l.length : Int) = l'.length) = true := decide_eq_true h1
  repeat (first | rw [ko] | rw [kr] | simp -dsimp -implicitDefEqProofs only [go_sem, rq1, e1])
  exact ⟨by rw [decide_eq_false fun h => h1 (by rw [h])], rfl⟩
 have e1 : decide (¬ (l.length : Int) = l'.length) = false := decide_eq_false (fun h => h h1)
 repeat (first | rw [ko] | rw [kr] | simp -dsimp -implicitDefEqProofs only [go_sem, rq1, e1])
 refine lz_keep [0, 1, 12] (fun s e h' => ∃ i : Nat, h' = g ∧ look e 13 .mk = .raw (.int .i64 (i : Nat)) ∧ s + i = l.length ∧ ∀ j, j < i → l.getD j default = l'.getD j default) l.length ?_ ?_
 ·exact ⟨0, rfl, zsm, by omega, fun j hj => by omega⟩
 rintro s e h' hks ⟨i, rfl, e8, hsi, hpre⟩
 simp -dsimp -implicitDefEqProofs only [go_sem, rq1] at hks
 by_cases h2 : (i : Int) < (l.length : Int)
 ·have hi : i < l.length := by omega
  have hi' : i < l'.length := by omega
  by_cases hm : l.getD i default = l'.getD i default
  ·have d1 : decide (¬ l.getD i default = l'.getD i default) = false := decide_eq_false (fun h => h hm)
   repeat (first | rw [ko] | rw [kr] | simp -dsimp -implicitDefEqProofs only [go_sem, rq1, hks, e8, h2])
   refine dq_intro [(0, []), (1, []), (2, []), (3, []), (4, []), (5, []), (6, []), (7, []), (8, [])] (by kernel_rfl) ?_
   repeat (first | rw [ko] | rw [kr] | simp -dsimp -implicitDefEqProofs only [go_sem, rq1, hi, hi', d1, wrap_succ hi (by omega)])
   refine nx_keep (s - 1) (by omega) zsm ⟨i + 1, rfl, zsm, by omega, fun j hj => ?_⟩
   by_cases hji : j = i
   ·subst hji; exact hm
   ·exact hpre j (by omega)
  ·have d1 : decide (¬ l.getD i default = l'.getD i default) = true := decide_eq_true hm
   repeat (first | rw [ko] | rw [kr] | simp -dsimp -implicitDefEqProofs only [go_sem, rq1, hks, e8, h2])
   refine dq_intro [(0, []), (1, []), (2, []), (3, []), (4, []), (5, []), (6, []), (7, []), (8, [])] (by kernel_rfl) ?_
   repeat (first | rw [ko] | rw [kr] | simp -dsimp -implicitDefEqProofs only [go_sem, rq1, hi, hi', d1])
   exact ⟨by rw [decide_eq_false fun h => hm (by rw [h])], rfl⟩
 ·repeat (first | rw [ko] | rw [kr] | simp -dsimp -implicitDefEqProofs only [go_sem, hks, e8, h2])
  refine ⟨?_, rfl⟩
  rw [decide_eq_true]
  refine List.ext_getElem (by omega) fun j a b => ?_
  have := hpre j (by omega)
  rw [List.getD_eq_getElem?_getD, List.getD_eq_getElem?_getD, List.getElem?_eq_getElem a, List.getElem?_eq_getElem b] at this
  exact this
end Go.Bi
end
section
set_option maxRecDepth 20000
namespace Go.Bi
open Go.Proofs
open Go.Ai (wrap_i64 wrap_u8 Heap)
variable {W0 : World} {P : Program}
set_option maxHeartbeats 4000000
def lastI (c : Int) (i : Nat) : Int := if c - (i : Int) * 4 < 4 then c - (i : Int) * 4 else 4
theorem lastCells_ok {F : Nat → Adr} {t : LTable} {i : Nat} {g : H2} (hc : -1000000 ≤ t.count ∧ t.count ≤ 1000000) (hi : i ≤ 2000000) : PW Tryz.prog W0 165 [.st (xTable F t), .raw (.int .i64 (i : Nat))] g (fun y => y = .raw (.int .i64 (lastI t.count i))) := by
 refine PW.scalar ?_
 refine begins [[0, 1], [1, 2]] Tryz.func165 rfl (rs := [.tmp 4]) rfl rfl ?_
 intro wf
 have w1 : IntKind.i64.wrap ((i : Int) * 4) = (i : Int) * 4 := by rw [wrap_i64] <;> omega
 have w2 : IntKind.i64.wrap (t.count - (i : Int) * 4) = t.count - (i : Int) * 4 := by rw [wrap_i64] <;> omega
 have w3 : Go.Ai.mnI 4 (t.count - (i : Int) * 4) = lastI t.count i := by unfold Go.Ai.mnI lastI; rfl
 repeat (first | rw [ko] | rw [kr] | simp -dsimp -implicitDefEqProofs only [go_sem, rq1, hoo, w1, w2, w3])
 exact ⟨le_push (H2.le.refl _), ⟨_, rfl⟩, rfl⟩
end Go.Bi
end
section
set_option maxRecDepth 20000
namespace Go.Bi
open Go.Proofs
open Go.Ai (wrap_i64 wrap_u8 Heap)
variable {W0 : World} {P : Program}
set_option maxHeartbeats 4000000
def pgB (s : LStore) (t : LTable) (i : Nat) : Bool := inI (t.pages.getD i default) 0 ((s.refs.length : Int) - 1) && (!decide (s.refs.getD (t.pages.getD i default).toNat default = 0) && (!decide (t.pages.getD i default ∈ t.pages.take i) && !decide (((s.pages.getD (t.pages.getD i default).toNat default).length : Int) < lastI t.count i)))
def tableB (s : LStore) (t : LTable) : Bool := !decide (t.count < 0) && (!decide (t.count > 64) && (decide ((t.pages.length : Int) = needI t.count) && (List.range t.pages.length).all (pgB s t)))
theorem implTable_ok {F F' : Nat → Adr} {s : LStore} {t : LTable} {g : H2} (hl : s.refs.length ≤ 1048576) (hp : s.pages.length = s.refs.length) (ht : t.pages.length ≤ 1048576) : PW Tryz.prog W0 133 [.st (xStore F s), .st (xTable F' t)] g (fun y => y = .raw (.bool (tableB s t))) := by
 refine PW.scalar ?_
 refine begins [[0, 1], [2, 3], [], [2, 3], [2, 3, 25, 26, 27], [2, 3, 25, 26, 27], [2, 3, 5, 6, 25, 26, 27], [], [2, 3, 25, 26, 27], []] Tryz.func133 rfl (rs := [.tmp 4]) rfl rfl ?_
 intro wf
 have hne : (hn g .mk == hn g .mk + 1) = false := by simp
 have L0 : ∀ k k' : OB, g.le ((g.push k).push k') := fun k k' => le_push (le_push (H2.le.refl _))
 repeat (first | rw [ko] | rw [kr] | simp -dsimp -implicitDefEqProofs only [go_sem, hoo])
 refine dq_intro [(0, []), (1, []), (2, []), (3, []), (4, []), (5, []), (6, []), (7, []), (8, []), (9, []), (10, []), (11, []), (12, []), (13, []), (14, [10]), (15, []), (16, [])] (by kernel_rfl) ?_
 by_cases h1 : t.count < 0
 ·repeat (first | rw [ko] | rw [kr] | simp -dsimp -implicitDefEqProofs only [go_sem, rq1, hoo, h1])
  exact ⟨L0 _ _, ⟨_, rfl⟩, by rw [tableB, decide_eq_true h1]; rfl⟩
 by_cases h2 : t.count > 64
 ·repeat (first | rw [ko] | rw [kr] | simp -dsimp -implicitDefEqProofs only [go_sem, rq1, hoo, h1, h2])
  exact ⟨L0 _ _, ⟨_, rfl⟩, by rw [tableB, decide_eq_false h1, decide_eq_true h2]; rfl⟩
 repeat (first | rw [ko] | rw [kr] | simp -dsimp -implicitDefEqProofs only [go_sem, rq1, hoo, h1, h2])
 refine wz_intro (implNeed_ok (by omega)) ?_
 rintro _ _ ⟨rfl, rfl⟩
 by_cases h3 : (t.pages.length : Int) = needI t.count
 rotate_left
 ·have e3 : decide (¬ (t.pages.length : Int) = needI t.count) = true := decide_eq_true h3
  repeat (first | rw [ko] | rw [kr] | simp -dsimp -implicitDefEqProofs only [go_sem, rq1, hoo, e3])
  exact ⟨L0 _ _, ⟨_, rfl⟩, by rw [tableB, decide_eq_false h1, decide_eq_false h2, decide_eq_false h3]; rfl⟩
 have e3 : decide (¬ (t.pages.length : Int) = needI t.count) = false := decide_eq_false (fun h => h h3)
 have hB : tableB s t = (List.range t.pages.length).all (pgB s t) := by rw [tableB, decide_eq_false h1, decide_eq_false h2, decide_eq_true h3]; rfl
 repeat (first | rw [ko] | rw [kr] | simp -dsimp -implicitDefEqProofs only [go_sem, rq1, hoo, e3])
 refine lz_keep [2, 3, 25, 26] (fun mm e h' => ∃ (i : Nat), g.le h' ∧ hg h' (hn g .mk) .mk = some ⟨2, [.sl (F 0) 1 (ints s.refs), .sl (F 1) 1 (rCellSS s.pages)]⟩ ∧ hg h' (hn g .mk + 1) .mk = some ⟨2, [.sl (F' 0) 1 (ints t.pages), .raw (.int .i64 t.count)]⟩ ∧ look e 27 .mk = .raw (.int .i64 (i : Nat)) ∧ mm + i = t.pages.length ∧ ∀ j, j < i → pgB s t j = true) t.pages.length ?_ ?_
 ·exact ⟨0, L0 _ _, by simp -dsimp -implicitDefEqProofs only [go_sem, hoo, hne], by simp -dsimp -implicitDefEqProofs only [go_sem, hoo], zsm, by omega, fun j hj => by omega⟩
 rintro mm e h' hks ⟨i, hle, r1, r2, ei, hm, hpre⟩
 simp -dsimp -implicitDefEqProofs only [go_sem, rq1] at hks
 by_cases q1 : (i : Int) < (t.pages.length : Int)
 rotate_left
 ·repeat (first | rw [ko] | rw [kr] | simp -dsimp -implicitDefEqProofs only [go_sem, hks, ei, q1])
  exact ⟨hle, ⟨_, rfl⟩, by rw [hB, range_all fun j hj => hpre j (by omega)]⟩
 have q2 : i < t.pages.length := by omega
 have w1 := zwrs i (by omega)
 have w2 : IntKind.i64.wrap ((s.refs.length : Int) - 1) = (s.refs.length : Int) - 1 := by rw [wrap_i64] <;> omega
 repeat (first | rw [ko] | rw [kr] | simp -dsimp -implicitDefEqProofs only [go_sem, rq1, hks, ei, q1, q2])
 refine dq_intro [(0, []), (1, []), (2, []), (3, []), (4, []), (5, []), (6, []), (7, []), (8, []), (9, []), (10, []), (11, []), (12, []), (13, []), (14, []), (15, []), (16, []), (17, []), (18, []), (19, []), (20, []), (21, []), (22, []), (23, []), (24, []), (25, []), (26, []), (27, []), (28, []), (29, []), (30, []), (31, []), (32, [25, 28]), (33, []), (34, [])] (by kernel_rfl) ?_
 repeat (first | rw [ko] | rw [kr] | simp -dsimp -implicitDefEqProofs only [go_sem, rq1, r1, w2])
 refine wz_intro in_ok ?_
 rintro _ _ ⟨rfl, rfl⟩
 cases h4 : inI (t.pages.getD i default) 0 ((s.refs.length : Int) - 1)
 ·repeat (first | rw [ko] | rw [kr] | simp -dsimp -implicitDefEqProofs only [go_sem, rq1])
  exact ⟨hle, ⟨_, rfl⟩, by rw [hB, range_bad q2 (by rw [pgB, h4]; rfl)]⟩
 have hr := inI_tt h4
 obtain ⟨k, hk⟩ := Int.eq_ofNat_of_zero_le hr.1
 have k1 : k < s.refs.length := by omega
 have k2 : k < s.pages.length := by omega
 have kt : (t.pages.getD i default).toNat = k := by omega
 have hpg : pgB s t i = (!decide (s.refs.getD k default = 0) && (!decide ((k : Int) ∈ t.pages.take i) && !decide (((s.pages.getD k default).length : Int) < lastI t.count i))) := by rw [pgB, h4, kt, hk]; rfl
 have b1 : (i : Int) ≤ (t.pages.length : Int) := by omega
 by_cases h5 : s.refs.getD k default = 0
 ·have e5 : decide (s.refs.getD k default = 0) = true := decide_eq_true h5
  repeat (first | rw [ko] | rw [kr] | simp -dsimp -implicitDefEqProofs only [go_sem, rq1, r1, hk, k1, e5])
  exact ⟨hle, ⟨_, rfl⟩, by rw [hB, range_bad q2 (by rw [hpg, e5]; rfl)]⟩
 have e5 : decide (s.refs.getD k default = 0) = false := decide_eq_false h5
 repeat (first | rw [ko] | rw [kr] | simp -dsimp -implicitDefEqProofs only [go_sem, rq1, r1, r2, hk, k1, e5, b1, ints_take])
 refine wz_intro (containsZ_ok (l := t.pages.take i) (by rw [List.length_take]; omega)) ?_
 rintro _ _ ⟨rfl, rfl⟩
 cases h6 : decide ((k : Int) ∈ t.pages.take i)
 rotate_left
 ·repeat (first | rw [ko] | rw [kr] | simp -dsimp -implicitDefEqProofs only [go_sem, rq1, hk])
  exact ⟨hle, ⟨_, rfl⟩, by rw [hB, range_bad q2 (by rw [hpg, e5, h6]; rfl)]⟩
 repeat (first | rw [ko] | rw [kr] | simp -dsimp -implicitDefEqProofs only [go_sem, rq1, r1, r2, hk, k2])
 refine pw_intro (lastCells_ok (F := F') (t := t) (by omega) (by omega)) ?_
 rintro _ n3 hn3 rfl
 try (rw [kq]; refine ⟨by simp -dsimp -implicitDefEqProofs only [go_sem, rq1, r1, hk, hoo], ?_⟩)
 by_cases h7 : ((s.pages.getD k default).length : Int) < lastI t.count i
 ·have e7 : decide (((s.pages.getD k default).length : Int) < lastI t.count i) = true := decide_eq_true h7
  repeat (first | rw [ko] | rw [kr] | simp -dsimp -implicitDefEqProofs only [go_sem, rq1, hk, e7])
  exact ⟨le_up hle hn3, ⟨_, rfl⟩, by rw [hB, range_bad q2 (by rw [hpg, e5, h6, e7]; rfl)]⟩
 ·have e7 : decide (((s.pages.getD k default).length : Int) < lastI t.count i) = false := decide_eq_false h7
  repeat (first | rw [ko] | rw [kr] | simp -dsimp -implicitDefEqProofs only [go_sem, rq1, hk, e7, w1])
  refine nx_keep (mm - 1) (by omega) zsm ⟨i + 1, le_up hle hn3, by simp -dsimp -implicitDefEqProofs only [go_sem, r1], by simp -dsimp -implicitDefEqProofs only [go_sem, r2], zsm, by omega, fun j hj => ?_⟩
  by_cases hji : j = i
  ·subst hji; rw [hpg, e5, h6, e7]; rfl
  ·exact hpre j (by omega)
end Go.Bi
end
section
set_option maxRecDepth 20000
namespace Go.Bi
open Go.Proofs
open Go.Ai (wrap_i64 wrap_u8 Heap)
variable {W0 : World} {P : Program}
set_option maxHeartbeats 4000000
def tableC (s : LStore) (t : LTable) : Bool := storeB s && (!decide (t.count < 0) && (decide ((t.pages.length : Int) = needI t.count) && (List.range t.pages.length).all (pgB s t)))
theorem specTable_ok {F F' : Nat → Adr} {s : LStore} {t : LTable} {g : H2} (hl : s.refs.length ≤ 1048576) (ht : t.pages.length ≤ 1048576) (hc : t.count ≤ 9223372036854775807) : PW Tryz.prog W0 94 [.st (xStore F s), .st (xTable F' t)] g (fun y => y = .raw (.bool (tableC s t))) := by
 refine PW.scalar ?_
 refine begins [[0, 1], [2, 3], [], [2, 3], [2, 3, 5], [2, 3, 5], [2, 3, 5], [2, 3, 5, 6], [], [2, 3, 5, 6], [2, 3, 5, 6, 7], [2, 3, 5, 6, 7], [2, 3, 5, 6, 7], [], [2, 3, 5, 6], [2, 3, 5, 6, 8], [2, 3, 5, 6], [2, 3, 5, 6, 8], [], []] Tryz.func94 rfl (rs := [.tmp 4]) rfl rfl ?_
 intro wf
 have hne : (hn g .mk == hn g .mk + 1) = false := by simp
 repeat (first | rw [ko] | rw [kr] | simp -dsimp -implicitDefEqProofs only [go_sem, hoo])
 refine dq_intro [(0, []), (1, []), (2, []), (3, []), (4, []), (5, []), (6, []), (7, []), (8, []), (9, []), (10, []), (11, []), (12, []), (13, []), (14, [10]), (15, []), (16, [])] (by kernel_rfl) ?_
 repeat (first | rw [ko] | rw [kr] | simp -dsimp -implicitDefEqProofs only [go_sem, hoo, hne])
 refine pw_intro (specStore_ok (F := F) hl) ?_
 rintro _ n1 hn1 rfl
 simp only [hn_push] at hn1
 have L0 : ∀ k k' : OB, g.le (((g.push k).push k').up n1) := fun k k' => le_up (le_push (le_push (H2.le.refl _))) (by simp only [hn_push]; exact hn1)
 try (rw [kq]; refine ⟨zsm, ?_⟩)
 cases h0 : storeB s
 ·repeat (first | rw [ko] | rw [kr] | simp -dsimp -implicitDefEqProofs only [go_sem, rq1, hoo])
  exact ⟨L0 _ _, ⟨_, rfl⟩, by rw [tableC, h0]; rfl⟩
 by_cases h1 : t.count < 0
 ·repeat (first | rw [ko] | rw [kr] | simp -dsimp -implicitDefEqProofs only [go_sem, rq1, hoo, h1])
  exact ⟨L0 _ _, ⟨_, rfl⟩, by rw [tableC, h0, decide_eq_true h1]; rfl⟩
 repeat (first | rw [ko] | rw [kr] | simp -dsimp -implicitDefEqProofs only [go_sem, rq1, hoo, h1])
 refine wz_intro (specNeed_ok hc) ?_
 rintro _ _ ⟨rfl, rfl⟩
 by_cases h3 : (t.pages.length : Int) = needI t.count
 rotate_left
 ·have e3 : decide (¬ (t.pages.length : Int) = needI t.count) = true := decide_eq_true h3
  repeat (first | rw [ko] | rw [kr] | simp -dsimp -implicitDefEqProofs only [go_sem, rq1, hoo, e3])
  exact ⟨L0 _ _, ⟨_, rfl⟩, by rw [tableC, h0, decide_eq_false h1, decide_eq_false h3]; rfl⟩
 have e3 : decide (¬ (t.pages.length : Int) = needI t.count) = false := decide_eq_false (fun h => h h3)
 repeat (first | rw [ko] | rw [kr] | simp -dsimp -implicitDefEqProofs only [go_sem, rq1, hoo, e3])
 have hB : tableC s t = (List.range t.pages.length).all (pgB s t) := by rw [tableC, h0, decide_eq_false h1, decide_eq_true h3]; rfl
 have hp : s.pages.length = s.refs.length := by
  unfold storeB at h0
  simp only [Bool.and_eq_true, decide_eq_true_eq] at h0
  omega
 refine lz_keep [2, 3] (fun mm e h' => ∃ (i : Nat), g.le h' ∧ hg h' (hn g .mk) .mk = some ⟨2, [.sl (F 0) 1 (ints s.refs), .sl (F 1) 1 (rCellSS s.pages)]⟩ ∧ hg h' (hn g .mk + 1) .mk = some ⟨2, [.sl (F' 0) 1 (ints t.pages), .raw (.int .i64 t.count)]⟩ ∧ look e 5 .mk = .raw (.int .i64 (i : Nat)) ∧ mm + i = t.pages.length ∧ ∀ j, j < i → pgB s t j = true) t.pages.length ?_ ?_
 ·exact ⟨0, L0 _ _, by simp -dsimp -implicitDefEqProofs only [go_sem, hoo, hne], by simp -dsimp -implicitDefEqProofs only [go_sem, hoo], zsm, by omega, fun j hj => by omega⟩
 rintro mm e h' hks ⟨i, hle, r1, r2, ei, hm, hpre⟩
 simp -dsimp -implicitDefEqProofs only [go_sem] at hks
 by_cases q1 : (i : Int) < (t.pages.length : Int)
 rotate_left
 ·repeat (first | rw [ko] | rw [kr] | simp -dsimp -implicitDefEqProofs only [go_sem, rq1, hks, ei, q1, r2])
  exact ⟨hle, ⟨_, rfl⟩, by rw [hB, range_all fun j hj => hpre j (by omega)]⟩
 have q2 : i < t.pages.length := by omega
 have w1 := zwrs i (by omega)
 have w2 : IntKind.i64.wrap ((s.refs.length : Int) - 1) = (s.refs.length : Int) - 1 := by rw [wrap_i64] <;> omega
 repeat (first | rw [ko] | rw [kr] | simp -dsimp -implicitDefEqProofs only [go_sem, rq1, hks, ei, q1, q2, r1, r2, w2])
 refine wz_intro l01In_ok ?_
 rintro _ h' ⟨rfl, rfl⟩
 cases h4 : inI (t.pages.getD i default) 0 ((s.refs.length : Int) - 1)
 ·repeat (first | rw [ko] | rw [kr] | simp -dsimp -implicitDefEqProofs only [go_sem, rq1])
  exact ⟨hle, ⟨_, rfl⟩, by rw [hB, range_bad q2 (by rw [pgB, h4]; rfl)]⟩
 have hr := inI_tt h4
 obtain ⟨k, hk⟩ := Int.eq_ofNat_of_zero_le hr.1
 have k1 : k < s.refs.length := by omega
 have k2 : k < s.pages.length := by omega
 have kt : (t.pages.getD i default).toNat = k := by omega
 have hpg : pgB s t i = (!decide (s.refs.getD k default = 0) && (!decide ((k : Int) ∈ t.pages.take i) && !decide (((s.pages.getD k default).length : Int) < lastI t.count i))) := by rw [pgB, h4, kt, hk]; rfl
 by_cases h5 : s.refs.getD k default = 0
 ·have e5 : decide (s.refs.getD k default = 0) = true := decide_eq_true h5
  repeat (first | rw [ko] | rw [kr] | simp -dsimp -implicitDefEqProofs only [go_sem, rq1, r1, hk, k1, e5])
  exact ⟨hle, ⟨_, rfl⟩, by rw [hB, range_bad q2 (by rw [hpg, e5]; rfl)]⟩
 have e5 : decide (s.refs.getD k default = 0) = false := decide_eq_false h5
 repeat (first | rw [ko] | rw [kr] | simp -dsimp -implicitDefEqProofs only [go_sem, rq1, r1, hk, k1, e5])
 refine lz_keep [2, 3, 5, 6] (fun m2 e2 h2' => ∃ (q : Nat), h2' = h' ∧ look e2 7 .mk = .raw (.int .i64 (q : Nat)) ∧ m2 + q = i ∧ ∀ x, x < q → t.pages.getD x default ≠ (k : Int)) i ?_ ?_
 ·exact ⟨0, rfl, zsm, by omega, fun x hx => by omega⟩
 rintro m2 e2 _ hks2 ⟨q, rfl, eq, hm2, hpre2⟩
 simp -dsimp -implicitDefEqProofs only [go_sem, rq1] at hks2
 by_cases p1 : (q : Int) < (i : Int)
 ·have p2 : q < t.pages.length := by omega
  have w3 := zwrs q (by omega)
  by_cases p3 : t.pages.getD q default = (k : Int)
  ·have e6 : decide (t.pages.getD q default = (k : Int)) = true := decide_eq_true p3
   repeat (first | rw [ko] | rw [kr] | simp -dsimp -implicitDefEqProofs only [go_sem, rq1, hks2, eq, p1, p2, r2, e6])
   have hin : (k : Int) ∈ t.pages.take i := by
    rw [← p3, List.getD_eq_getElem?_getD, List.getElem?_eq_getElem p2]
    exact List.mem_take_iff_getElem.2 ⟨q, by omega, rfl⟩
   exact ⟨hle, ⟨_, rfl⟩, by rw [hB, range_bad q2 (by rw [hpg, e5, decide_eq_true hin]; rfl)]⟩
  ·have e6 : decide (t.pages.getD q default = (k : Int)) = false := decide_eq_false p3
   repeat (first | rw [ko] | rw [kr] | simp -dsimp -implicitDefEqProofs only [go_sem, rq1, hks2, eq, p1, p2, r2, e6, w3])
   refine nx_keep (m2 - 1) (by omega) zsm ⟨q + 1, rfl, zsm, by omega, fun x hx => ?_⟩
   by_cases hxq : x = q
   ·subst hxq; exact p3
   ·exact hpre2 x (by omega)
 have hout : decide ((k : Int) ∈ t.pages.take i) = false := decide_eq_false fun hin => by
  obtain ⟨x, hx, e⟩ := List.mem_take_iff_getElem.1 hin
  refine hpre2 x (by omega) ?_
  rw [List.getD_eq_getElem?_getD, List.getElem?_eq_getElem (by omega)]; exact e
 have w4 : IntKind.i64.wrap ((i : Int) * 4) = (i : Int) * 4 := by rw [wrap_i64] <;> omega
 have w5 : IntKind.i64.wrap (t.count - (i : Int) * 4) = t.count - (i : Int) * 4 := by rw [wrap_i64] <;> omega
 repeat (first | rw [ko] | rw [kr] | simp -dsimp -implicitDefEqProofs only [go_sem, rq1, hks2, eq, p1, r2, w4, w5])
 refine gz_dec (fun p4 => ?_) (fun p4 => ?_)
 ·have hla : lastI t.count i = 4 := by unfold lastI; split <;> omega
  by_cases h7 : ((s.pages.getD k default).length : Int) < 4
  ·have e7 : decide (((s.pages.getD k default).length : Int) < 4) = true := decide_eq_true h7
   repeat (first | rw [ko] | rw [kr] | simp -dsimp -implicitDefEqProofs only [go_sem, rq1, r1, k2, e7])
   exact ⟨hle, ⟨_, rfl⟩, by rw [hB, range_bad q2 (by rw [hpg, e5, hout, hla, e7]; rfl)]⟩
  ·have e7 : decide (((s.pages.getD k default).length : Int) < 4) = false := decide_eq_false h7
   repeat (first | rw [ko] | rw [kr] | simp -dsimp -implicitDefEqProofs only [go_sem, rq1, r1, k2, e7, w1])
   refine nx_keep (mm - 1) (by omega) zsm ⟨i + 1, hle, r1, r2, zsm, by omega, fun j hj => ?_⟩
   by_cases hji : j = i
   ·subst hji; rw [hpg, e5, hout, hla, e7]; rfl
   ·exact hpre j (by omega)
 ·have hla : lastI t.count i = (t.count - (i : Int) * 4) := by unfold lastI; split <;> omega
  by_cases h7 : ((s.pages.getD k default).length : Int) < (t.count - (i : Int) * 4)
  ·have e7 : decide (((s.pages.getD k default).length : Int) < (t.count - (i : Int) * 4)) = true := decide_eq_true h7
   repeat (first | rw [ko] | rw [kr] | simp -dsimp -implicitDefEqProofs only [go_sem, rq1, r1, k2, e7])
   exact ⟨hle, ⟨_, rfl⟩, by rw [hB, range_bad q2 (by rw [hpg, e5, hout, hla, e7]; rfl)]⟩
  ·have e7 : decide (((s.pages.getD k default).length : Int) < (t.count - (i : Int) * 4)) = false := decide_eq_false h7
   repeat (first | rw [ko] | rw [kr] | simp -dsimp -implicitDefEqProofs only [go_sem, rq1, r1, k2, e7, w1])
   refine nx_keep (mm - 1) (by omega) zsm ⟨i + 1, hle, r1, r2, zsm, by omega, fun j hj => ?_⟩
   by_cases hji : j = i
   ·subst hji; rw [hpg, e5, hout, hla, e7]; rfl
   ·exact hpre j (by omega)
end Go.Bi
end
section
set_option maxRecDepth 20000
namespace Go.Bi
theorem pigeon : ∀ (n : Nat) (l : List Int), l.Nodup → (∀ x ∈ l, 0 ≤ x ∧ x < n) → l.length ≤ n
  | 0, l, _, h => by
    cases l with
    | nil => simp
    | cons x l => have := h x (by simp); omega
  | n + 1, l, hd, h => by
    by_cases hm : (n : Int) ∈ l
    · have h1 := pigeon n (l.erase n) (hd.erase _) (fun x hx => by
        have := (hd.mem_erase_iff).1 hx
        have h2 := h x this.2
        omega)
      rw [List.length_erase_of_mem hm] at h1
      omega
    · have := pigeon n l hd (fun x hx => by
        have h2 := h x hx
        have : x ≠ n := fun e => hm (e ▸ hx)
        omega)
      omega
theorem nodup_of_take {l : List Int} (h : ∀ i, i < l.length → ¬ l.getD i default ∈ l.take i) : l.Nodup := by
 rw [List.Nodup, List.pairwise_iff_getElem]
 intro i j hi hj hij e
 refine h j hj ?_
 rw [List.getD_eq_getElem?_getD, List.getElem?_eq_getElem hj, Option.getD_some, ← e]
 exact List.mem_take_iff_getElem.2 ⟨i, by omega, rfl⟩
theorem take_getD {α : Type} [Inhabited α] {l : List α} {m : Nat} (h : m ≤ l.length) : l.take m = (List.range m).map fun j => l.getD j default := by
 refine List.ext_getElem (by simp; omega) fun i h1 h2 => ?_
 simp at h1 h2
 have h3 : i < l.length := by omega
 simp [List.getElem_take, List.getD_eq_getElem?_getD, List.getElem?_eq_getElem h3]
theorem flat_rows {α : Type} [Inhabited α] {row : Nat → List α} {c : Nat} : ∀ (k : Nat), (∀ i, i < k → 4 * i < c ∧ min 4 (c - 4 * i) ≤ (row i).length) →
    (List.range k).flatMap (fun i => (row i).take (min 4 (c - 4 * i))) = (List.range (min (4 * k) c)).map fun j => (row (j / 4)).getD (j % 4) default
  | 0, _ => by simp
  | k + 1, h => by
    have ih := flat_rows k (fun i hi => h i (by omega))
    obtain ⟨h1, h2⟩ := h k (by omega)
    have e1 : min (4 * (k + 1)) c = 4 * k + min 4 (c - 4 * k) := by omega
    have e2 : min (4 * k) c = 4 * k := by omega
    rw [List.range_succ, List.flatMap_append, ih, e1, List.range_add, List.map_append, e2]
    congr 1
    rw [List.flatMap_cons, List.flatMap_nil, List.append_nil, take_getD h2, List.map_map]
    refine List.map_congr_left fun j hj => ?_
    rw [List.mem_range] at hj
    have e3 : (4 * k + j) / 4 = k := by omega
    have e4 : (4 * k + j) % 4 = j := by omega
    simp [e3, e4]
theorem pgB_t {s : LStore} {t : LTable} {i : Nat} (h : pgB s t i = true) : (0 ≤ t.pages.getD i default ∧ t.pages.getD i default < (s.refs.length : Int)) ∧ ¬ t.pages.getD i default ∈ t.pages.take i ∧ lastI t.count i ≤ ((s.pages.getD (t.pages.getD i default).toNat default).length : Int) := by
 unfold pgB at h
 simp only [Bool.and_eq_true, Bool.not_eq_true', decide_eq_false_iff_not] at h
 obtain ⟨h1, h2, h3, h4⟩ := h
 have := inI_tt h1
 exact ⟨by omega, h3, by omega⟩
theorem all_range {n : Nat} {p : Nat → Bool} (h : (List.range n).all p = true) : ∀ i, i < n → p i = true := fun i hi => by
 rw [List.all_eq_true] at h
 exact h i (List.mem_range.2 hi)
theorem need_nat (c : Nat) : needI (c : Int) = (((c + 3) / 4 : Nat) : Int) := by
 cases c with
 | zero => decide
 | succ k =>
  have e1 : Int.tdiv (k : Int) 4 = ((k / 4 : Nat) : Int) := rfl
  have e2 : ((k + 1 : Nat) : Int) - 1 = (k : Int) := by omega
  rw [needI, if_neg (by omega), e2, e1]
  omega
theorem tableC_eq {s : LStore} {t : LTable} (h : storeB s = true) : tableC s t = tableB s t := by
 have hr : s.refs.length ≤ 16 := by
  unfold storeB poolB at h
  simp only [Bool.and_eq_true, decide_eq_true_eq] at h
  omega
 unfold tableC tableB
 rw [h, Bool.true_and]
 by_cases h1 : t.count < 0
 ·rw [decide_eq_true h1]; rfl
 rw [decide_eq_false h1]
 by_cases h2 : t.count > 64
 ·rw [decide_eq_true h2]
  show (true && _) = (true && (false && _))
  rw [Bool.true_and, Bool.false_and, Bool.true_and]
  rw [Bool.and_eq_false_iff]
  by_cases h3 : (t.pages.length : Int) = needI t.count
  ·right
   rw [Bool.eq_false_iff]
   intro hall
   have hp := all_range hall
   have hd : t.pages.Nodup := nodup_of_take fun i hi => (pgB_t (hp i hi)).2.1
   have hl := pigeon s.refs.length t.pages hd fun x hx => by
    obtain ⟨i, hi, rfl⟩ := List.getElem_of_mem hx
    have := (pgB_t (hp i hi)).1
    rwa [List.getD_eq_getElem?_getD, List.getElem?_eq_getElem hi] at this
   obtain ⟨c, hc⟩ := Int.eq_ofNat_of_zero_le (show 0 ≤ t.count by omega)
   rw [hc, need_nat] at h3
   omega
  ·left; exact decide_eq_false h3
 ·rw [decide_eq_false h2]; rfl
def rowL (s : LStore) (t : LTable) (i : Nat) : List LCell := s.pages.getD (t.pages.getD i default).toNat default
def cellsL (s : LStore) (t : LTable) (k : Nat) : List LCell := (List.range k).flatMap fun i => (rowL s t i).take (lastI t.count i).toNat
def cellJ (s : LStore) (t : LTable) (j : Nat) : LCell := (rowL s t (j / 4)).getD (j % 4) default
theorem table_t {s : LStore} {t : LTable} (h : tableB s t = true) : 0 ≤ t.count ∧ t.count ≤ 64 ∧ (t.pages.length : Int) = needI t.count ∧ ∀ i, i < t.pages.length → pgB s t i = true := by
 unfold tableB at h
 simp only [Bool.and_eq_true, Bool.not_eq_true', decide_eq_false_iff_not, decide_eq_true_eq] at h
 exact ⟨by omega, by omega, h.2.2.1, all_range h.2.2.2⟩
theorem cells_eq {s : LStore} {t : LTable} (h : tableB s t = true) : cellsL s t t.pages.length = (List.range t.count.toNat).map (cellJ s t) := by
 obtain ⟨h1, h2, h3, h4⟩ := table_t h
 obtain ⟨c, hc⟩ := Int.eq_ofNat_of_zero_le h1
 rw [hc, need_nat] at h3
 have hn : t.pages.length = (c + 3) / 4 := by omega
 have hla : ∀ i, 4 * i < c → (lastI t.count i).toNat = min 4 (c - 4 * i) := fun i hi => by
  unfold lastI; split <;> omega
 have := flat_rows (row := rowL s t) (c := c) t.pages.length fun i hi => by
  have h5 := (pgB_t (h4 i hi)).2.2
  have h6 := hla i (by omega)
  refine ⟨by omega, ?_⟩
  show _ ≤ (s.pages.getD _ _).length
  omega
 rw [show min (4 * t.pages.length) c = c by omega] at this
 have e : cellsL s t t.pages.length = (List.range t.pages.length).flatMap (fun i => (rowL s t i).take (min 4 (c - 4 * i))) := by
  unfold cellsL
  rw [List.flatMap_def, List.flatMap_def]
  congr 1
  refine List.map_congr_left fun i hi => ?_
  rw [List.mem_range] at hi
  rw [hla i (by omega)]
 rw [e, this, hc]
 rfl
end Go.Bi
end
section
set_option maxRecDepth 20000
namespace Go.Bi
open Go.Proofs
open Go.Ai (wrap_i64 wrap_u8 Heap)
variable {W0 : World} {P : Program}
set_option maxHeartbeats 4000000
theorem allT_true : (t : T) → ∀ (f : Adr), AllT (fun _ => True) f t
 | .v _, _ => .v
 | .l z es, f => .l (fun _ _ _ _ => trivial) fun i j t h => by
  have : SizeOf.sizeOf t < SizeOf.sizeOf (T.l z es) := by
   cases he : es[i]? with
   | none => simp [he] at h
   | some e =>
    simp only [he, Option.bind_some] at h
    have h1 := List.sizeOf_lt_of_mem (List.mem_of_getElem? h)
    have h2 := List.sizeOf_lt_of_mem (List.mem_of_getElem? he)
    simp only [T.l.sizeOf_spec]
    omega
  exact allT_true t _
termination_by t => SizeOf.sizeOf t
decreasing_by exact this
theorem toTs_app : ∀ {a b : List X} {x y : List T}, toTs a = some x → toTs b = some y → toTs (a ++ b) = some (x ++ y)
 | [], b, x, y, h1, h2 => by simp only [toTs, Option.some.injEq] at h1; subst h1; exact h2
 | c :: a, b, x, y, h1, h2 => by
  simp only [List.cons_append, toTs] at h1 ⊢
  cases hc : toT c with
  | none => rw [hc] at h1; cases h1
  | some t =>
   cases ha : toTs a with
   | none => rw [hc, ha] at h1; cases h1
   | some r =>
    rw [hc, ha] at h1
    simp only [Option.some.injEq] at h1
    subst h1
    rw [toTs_app ha h2]; rfl
def CellRow (cs : List X) (l : List LCell) : Prop := toTs cs = some (l.flatMap eCell) ∧ (∀ x ∈ cs, ∃ f z es, x = .sl f z es) ∧ cs.length = l.length * 2
theorem CellRow.nil : CellRow [] [] := ⟨rfl, by simp, rfl⟩
theorem CellRow.app {a b : List X} {l l' : List LCell} (h : CellRow a l) (h' : CellRow b l') : CellRow (a ++ b) (l ++ l') :=
 ⟨by rw [List.flatMap_append]; exact toTs_app h.1 h'.1, fun x hx => (List.mem_append.1 hx).elim (h.2.1 x) (h'.2.1 x), by rw [List.length_append, h.2.2, h'.2.2, List.length_append]; omega⟩
theorem CellRow.ok {cs : List X} {l : List LCell} (h : CellRow cs l) : cs.all okX = true := by
 rw [List.all_eq_true]
 intro x hx
 obtain ⟨f, z, es, rfl⟩ := h.2.1 x hx
 rfl
theorem flat_cellX {f : Adr} : ∀ {l : List LCell} {i : Nat}, CellRow (flatX f i (rCellS l)) l
 | [], _ => .nil
 | c :: l, i => by
  have h := flat_cellX (f := f) (l := l) (i := i + 1)
  have h1 : CellRow (mkL (under f i) 0 (eCell c)) [c] := by
   refine ⟨rfl, ?_, rfl⟩
   intro x hx
   simp only [eCell, mkL, mkC, List.mem_cons, List.not_mem_nil, or_false] at hx
   rcases hx with rfl | rfl <;> exact ⟨_, _, _, rfl⟩
  have h2 := h1.app h
  exact h2
theorem chunk_cells : ∀ {l : List LCell}, chunk 2 l.length (l.flatMap eCell) = rCellS l
 | [] => rfl
 | c :: l => by
  have := chunk_cells (l := l)
  show chunk 2 (l.length + 1) (eCell c ++ l.flatMap eCell) = eCell c :: rCellS l
  rw [← this]; rfl
theorem cells_fz {p : Nat → Prop} {N : Nat} {g : H2} {x : X} {cs : List X} {l : List LCell} (o : Own N g x 2 l.length cs) (hc : CellRow cs l) (hp : ∀ b, N ≤ b → p b) : ∃ f, Fz p (fun _ => True) g x (.sl f 2 (rCellS l)) := by
 have := Own.fz (p := p) (q := fun _ => True) o hp (fun c hx => by
  obtain ⟨f, z, es, rfl⟩ := hc.2.1 c hx
  exact .sl (.sl (allT_true _ _))) hc.1
 rwa [chunk_cells] at this
theorem append_cellX {D : Nat → Option (List Nat)} {g : H2} {K : KT} {t u U y N : Nat} {zs : List Value} {l l' : List LCell} {cs : List X} {x : X} {f : Adr} (he : Go.Ai.elt? P t = some (U, 2, y)) (hz : Go.Ai.zr? P U = some zs) (hl : zs.length = 2) (hu : Go.Ai.cls? P u = some .sl)
  (hx : Own N g x 2 l.length cs) (hc : CellRow cs l) (hN0 : N ≤ hn g .mk) (hn0 : (l.length + l'.length) * (y + 1) ≤ Go.Ai.most)
  (hk : ∀ v' g' cs', Own N g' v' 2 (l ++ l').length cs' → CellRow cs' (l ++ l') → hn g .mk ≤ hn g' .mk → (∀ g0 : H2, hn g0 .mk ≤ N → g0.le g → g0.le g') → (∀ b, b < hn g .mk → blockOf x ≠ some b → hg g' b .mk = hg g b .mk) → kz K v' g' .mk) :
  az (biz P g .append [t, u] [x, .sl f 2 (rCellS l')] .mk) K .mk := by
 have h2 : CellRow (flatX f 0 (rCellS l')) l' := flat_cellX
 refine append_own (z := 1) (N := N) (m := l'.length) (news := flatX f 0 (rCellS l')) he hz hl hu hx hN0 ?_ h2.2.2 h2.ok hn0 ?_
 ·simp only [srcX, if_true, rCellS_len]
 intro v' g' o
 refine hk v' g' (cs ++ flatX f 0 (rCellS l')) ?_ (hc.app h2)
 rw [List.length_append]
 exact o
end Go.Bi
end
section
set_option maxRecDepth 20000
namespace Go.Bi
open Go.Proofs
open Go.Ai (wrap_i64 wrap_u8)
variable {W0 : World}
def rRequestS (zs : List LRequest) : List (List T) := zs.map eRequest
theorem rRequestS_len {zs : List LRequest} : (rRequestS zs).length = zs.length := by simp [rRequestS]
theorem rRequestS_el {zs : List LRequest} {i : Nat} (hi : i < zs.length) : el (rRequestS zs) i = eRequest (zs.getD i default) := el_map hi
attribute [go_sem] rRequestS_len rRequestS_el
def szRequestS (zs : List LRequest) : Nat := zs.length + sumN szRequest zs
def fitRequestS (zs : List LRequest) : Prop := zs.length ≤ 9223372036854775807 ∧ ∀ x ∈ zs, fitRequest x
theorem szRequestS_pw {f : Adr} {zs : List LRequest} {left : Int} {h : H2} (hf : fitRequestS zs) (hl : 0 ≤ left ∧ left ≤ 1048576) : PW Tryz.prog W0 11 [.sl f 10 (rRequestS zs), .raw (.int .i64 left)] h (fun y => ∃ k : Int, y = .raw (.int .i64 k) ∧ (0 ≤ k → (szRequestS zs : Int) + k ≤ left)) := by
 obtain ⟨hf1, hf2⟩ := hf
 unfold szRequestS
 have hw : IntKind.i64.wrap (left - zs.length) = left - zs.length := by rw [wrap_i64] <;> omega
 refine PW.scalar ?_
 refine begins [[0, 1], [0, 1], [0, 1], [], [0, 1], [0, 1, 5], [0, 1, 5], [0, 1, 5], [0, 1, 5], [], [1]] Tryz.func11 rfl (rs := [.tmp 4]) rfl rfl ?_
 intro wf
 repeat (first | rw [ko] | rw [kr] | simp -dsimp -implicitDefEqProofs only [go_sem, rq1, hw])
 refine gz_dec (fun h1 => ?_) (fun h1 => ?_)
 ·repeat (first | rw [ko] | rw [kr] | simp -dsimp -implicitDefEqProofs only [go_sem])
  exact ⟨H2.le.refl _, ⟨_, rfl⟩, _, rfl, fun hh => by omega⟩
 ·repeat (first | rw [ko] | rw [kr] | simp -dsimp -implicitDefEqProofs only [go_sem, rq1])
  refine lz_keep [0] (fun m e h' => ∃ (k n : Nat) (x : Int), h' = h.up n ∧ hn h .mk ≤ n ∧ look e 5 .mk = .raw (.int .i64 k) ∧ look e 1 .mk = .raw (.int .i64 x) ∧ 0 ≤ x ∧ (zs.length : Int) + sumN szRequest (zs.take k) + x ≤ left ∧ m + k = zs.length) zs.length ?_ ?_
  ·exact ⟨0, hn h .mk, left - zs.length, up_self, Nat.le_refl _, zsm, zsm, by omega, by simp [sumN]; omega, by omega⟩
  ·rintro m e h' hks ⟨k, n, x, rfl, hnn, e5, e1, hx, hsum, hk⟩
   simp -dsimp -implicitDefEqProofs only [go_sem, rq1] at hks
   by_cases h2 : (k : Int) < (zs.length : Int)
   ·have h3 : k < zs.length := by omega
    have hst : sumN szRequest (zs.take (k + 1)) = sumN szRequest (zs.take k) + szRequest (zs.getD k default) := sumN_take (f := szRequest) h3
    repeat (first | rw [ko] | rw [kr] | simp -dsimp -implicitDefEqProofs only [go_sem, rq1, rq2, rq3, hks, e5, e1, h2, h3])
    refine pw_intro (szRequest_ok (F := under (under f k)) (c := zs.getD k default) (hf2 _ (getD_mem h3)) ⟨by omega, by omega⟩) ?_
    rintro _ n2 hn2 ⟨x2, rfl, hx2⟩
    simp only [hn_up] at hn2
    repeat (first | rw [ko] | rw [kr] | simp -dsimp -implicitDefEqProofs only [go_sem, rq1])
    refine gz_dec (fun h4 => ?_) (fun h4 => ?_)
    ·repeat (first | rw [ko] | rw [kr] | simp -dsimp -implicitDefEqProofs only [go_sem])
     exact ⟨(by first | exact le_up (H2.le.refl _) (by omega) | exact le_up (le_up (H2.le.refl _) hnn) (by rw [hn_up]; omega)), ⟨_, rfl⟩, _, rfl, fun hh => by omega⟩
    ·repeat (first | rw [ko] | rw [kr] | simp -dsimp -implicitDefEqProofs only [go_sem, rq1, wrap_succ h3 hf1])
     exact nx_keep (m - 1) (by omega) zsm ⟨k + 1, n2, x2, up_up, by omega, zsm, zsm, by omega, by have := hx2 (by omega); omega, by omega⟩
   ·repeat (first | rw [ko] | rw [kr] | simp -dsimp -implicitDefEqProofs only [go_sem, rq1, hks, e5, e1, h2])
    refine ⟨le_up (H2.le.refl _) hnn, ⟨_, rfl⟩, x, rfl, fun _ => ?_⟩
    rw [List.take_of_length_le (by omega)] at hsum
    omega
theorem eqRequestS_pw {f f' : Adr} {zs : List LRequest} {h : H2} (hf : fitRequestS zs) : PW Tryz.prog W0 24 [.sl f 10 (rRequestS zs), .sl f' 10 (rRequestS zs)] h (fun y => y = .raw (.bool true)) := by
 obtain ⟨hf1, hf2⟩ := hf
 refine PW.scalar ?_
 refine begins [[0, 1], [0, 1], [], [0, 1], [0, 1, 5], [0, 1, 5], [0, 1, 5], [], []] Tryz.func24 rfl (rs := [.tmp 4]) rfl rfl ?_
 intro wf
 repeat (first | rw [ko] | rw [kr] | simp -dsimp -implicitDefEqProofs only [go_sem, rq1])
 refine lz_keep [0, 1] (fun m e h' => ∃ (k n : Nat), h' = h.up n ∧ hn h .mk ≤ n ∧ look e 5 .mk = .raw (.int .i64 k) ∧ m + k = zs.length) zs.length ?_ ?_
 ·exact ⟨0, hn h .mk, up_self, Nat.le_refl _, zsm, by omega⟩
 ·rintro m e h' hks ⟨k, n, rfl, hnn, e5, hk⟩
  simp -dsimp -implicitDefEqProofs only [go_sem, rq1] at hks
  by_cases h2 : (k : Int) < (zs.length : Int)
  ·have h3 : k < zs.length := by omega
   repeat (first | rw [ko] | rw [kr] | simp -dsimp -implicitDefEqProofs only [go_sem, rq1, hks, e5, h2])
   refine dq_intro [(0, []), (1, []), (2, []), (3, []), (4, []), (5, []), (6, []), (7, []), (8, []), (9, [])] (by kernel_rfl) ?_
   repeat (first | rw [ko] | rw [kr] | simp -dsimp -implicitDefEqProofs only [go_sem, rq1, rq2, rq3, h3])
   refine pw_intro (eqRequest_ok (F := under (under f k)) (F' := under (under f' k)) (c := zs.getD k default) (hf2 _ (getD_mem h3))) ?_
   rintro _ n2 hn2 rfl
   simp only [hn_up] at hn2
   repeat (first | rw [ko] | rw [kr] | simp -dsimp -implicitDefEqProofs only [go_sem, rq1, wrap_succ h3 hf1])
   exact nx_keep (m - 1) (by omega) zsm ⟨k + 1, n2, up_up, by omega, zsm, by omega⟩
  ·repeat (first | rw [ko] | rw [kr] | simp -dsimp -implicitDefEqProofs only [go_sem, rq1, hks, e5, h2])
   exact ⟨le_up (H2.le.refl _) hnn, ⟨_, rfl⟩, rfl⟩
theorem toRequestS_new {f : Adr} {zs : List LRequest} {h : H2} (hs : szRequestS zs ≤ 1048576) : NewT Tryz.prog W0 17 [.sl f 10 (rRequestS zs)] h (.l 10 (rRequestS zs)) := by
 unfold szRequestS at hs
 have hE : ∀ a, (eRequest a).length = 10 := fun a => rfl
 refine begins [[0], [0], [0, 3], [0, 3, 4], [0, 3, 4], [0, 3, 4], [3]] Tryz.func17 rfl (rs := [.tmp 2]) rfl rfl ?_
 intro wf
 repeat (first | rw [ko] | rw [kr] | simp -dsimp -implicitDefEqProofs only [go_sem])
 refine make_intro Ai.ty_el49 Ai.ty_zr68 (by decide) ⟨by omega, by simp only [Int.toNat_natCast]; have : Ai.most = 1099511627776 := rfl; omega⟩ ?_
 repeat (first | rw [ko] | rw [kr] | simp -dsimp -implicitDefEqProofs only [go_sem, rq1])
 refine lz_keep [0, 3] (fun m e h' => ∃ (k : Nat) (cs : List X) (bs : List Nat), look e 4 .mk = .raw (.int .i64 k) ∧ m + k = zs.length ∧ hg h' (hn h .mk) .mk = some ⟨10, cs⟩ ∧ cs.length = zs.length * 10 ∧ OTs h' bs (cs.take (k * 10)) (((zs.take k).map eRequest).flatten) ∧ Bl (hn h .mk + 1) (hn h' .mk) bs ∧ h.le h' ∧ hn h .mk < hn h' .mk) zs.length ?_ ?_
 ·exact ⟨0, _, [], zsm, by omega, (by rw [hg_push, hoo]; rfl), by simp [rep_len], by simpa using OTs.nil, Bl.nil, le_push (H2.le.refl _), by rw [hn_push]; omega⟩
 ·rintro m e h' hks ⟨k, cs, bs, e4, hk, hrow, hcs, ho, hbl, hle, hlt⟩
  simp -dsimp -implicitDefEqProofs only [go_sem] at hks
  by_cases h2 : (k : Int) < (zs.length : Int)
  ·have h3 : k < zs.length := by omega
   have hsm : szRequest (zs.getD k default) ≤ sumN szRequest zs := sumN_mem (f := szRequest) (getD_mem h3)
   repeat (first | rw [ko] | rw [kr] | simp -dsimp -implicitDefEqProofs only [go_sem, rq1, rq2, rq3, hks, e4, h2, h3])
   refine wz_intro (toRequest_ok (F := under (under f k)) (c := zs.getD k default) (by omega)) ?_
   rintro _ g2 ⟨l2, ys, b2, rfl, o2, bl2⟩
   have nn2 := l2.1
   have hyl : (ys).length = 10 := (OTs.len o2).trans (hE _)
   have hyo := OTs.okx o2
   obtain ⟨w1, w2, w3⟩ := wrt_next hcs h3 hyl
   have row2 := (l2.2 (hn h .mk) hlt).trans hrow
   have hi2 : (0 : Int) ≤ (k : Int) ∧ (k : Int) < (zs.length : Int) := by omega
   repeat (first | rw [ko] | rw [kr] | simp -dsimp -implicitDefEqProofs only [go_sem, rq1, row2, hi2, hyl, hyo, w1, wrap_succ h3 (by omega)])
   have hset : ∀ {b : Nat} {kk : OB}, b ≠ hn h .mk → (g2.set (hn h .mk) kk).get b = g2.get b := fun hb => by simp only [H2.set]; rw [if_neg hb]
   refine nx_keep (m - 1) (by omega) zsm ⟨k + 1, _, bs ++ b2, zsm, by omega, (by rw [hg_set, hoo]; rfl), w2, ?_, ?_, le_set (hle.trans l2) (Nat.le_refl _), by simp -dsimp -implicitDefEqProofs only [go_sem] <;> omega⟩
   ·rw [w3, flat_next h3]
    refine OTs.append ((OTs.keep ho l2 hbl).frame fun b hb => hset (by have := (hbl.2 b hb).1; omega)) (o2.frame fun b hb => hset (by have := (bl2.2 b hb).1; omega))
   ·rw [hn_set]
    exact hbl.append bl2 (by omega) nn2
  ·repeat (first | rw [ko] | rw [kr] | simp -dsimp -implicitDefEqProofs only [go_sem, rq1, hks, e4, h2])
   have : k = zs.length := by omega
   subst this
   obtain ⟨q1, q2⟩ := OT.full hE hrow hcs ho hbl hlt
   exact ⟨hle, _, q1, q2⟩
structure LEngine where
 model : LModel
 store : LStore
 requests : List LRequest
instance : Inhabited LEngine := ⟨⟨default, default, default⟩⟩
def eEngine (c : LEngine) : List T := [.v (.int .i64 c.model.dim), .v (.int .i64 c.model.heads), .v (.int .i64 c.model.context), .l 2 (rMergeS c.model.merges), .l 1 (rIntSS c.model.embed), .l 32 (rLayerS c.model.layers), .l 1 (ints c.model.gainEnd), .v (.int .i64 c.model.head.width), .l 1 (rIntSS c.model.head.rows), .l 1 (rIntSS c.model.head.scales), .v (.int .i64 c.model.head.mul), .v (.int .i64 c.model.head.shift), .l 1 (rIntSS c.model.turns.cos), .l 1 (rIntSS c.model.turns.sin), .l 1 (ints c.store.refs), .l 1 (rCellSS c.store.pages), .l 10 (rRequestS c.requests)]
def xEngine (F : Nat → Adr) (c : LEngine) : List X := [.raw (.int .i64 c.model.dim), .raw (.int .i64 c.model.heads), .raw (.int .i64 c.model.context), .sl (F 3) 2 (rMergeS c.model.merges), .sl (F 4) 1 (rIntSS c.model.embed), .sl (F 5) 32 (rLayerS c.model.layers), .sl (F 6) 1 (ints c.model.gainEnd), .raw (.int .i64 c.model.head.width), .sl (F 8) 1 (rIntSS c.model.head.rows), .sl (F 9) 1 (rIntSS c.model.head.scales), .raw (.int .i64 c.model.head.mul), .raw (.int .i64 c.model.head.shift), .sl (F 12) 1 (rIntSS c.model.turns.cos), .sl (F 13) 1 (rIntSS c.model.turns.sin), .sl (F 14) 1 (ints c.store.refs), .sl (F 15) 1 (rCellSS c.store.pages), .sl (F 16) 10 (rRequestS c.requests)]
theorem xEngine_def {F : Nat → Adr} {c : LEngine} : xEngine F c = [.raw (.int .i64 c.model.dim), .raw (.int .i64 c.model.heads), .raw (.int .i64 c.model.context), .sl (F 3) 2 (rMergeS c.model.merges), .sl (F 4) 1 (rIntSS c.model.embed), .sl (F 5) 32 (rLayerS c.model.layers), .sl (F 6) 1 (ints c.model.gainEnd), .raw (.int .i64 c.model.head.width), .sl (F 8) 1 (rIntSS c.model.head.rows), .sl (F 9) 1 (rIntSS c.model.head.scales), .raw (.int .i64 c.model.head.mul), .raw (.int .i64 c.model.head.shift), .sl (F 12) 1 (rIntSS c.model.turns.cos), .sl (F 13) 1 (rIntSS c.model.turns.sin), .sl (F 14) 1 (ints c.store.refs), .sl (F 15) 1 (rCellSS c.store.pages), .sl (F 16) 10 (rRequestS c.requests)] := rfl
def szEngine (c : LEngine) : Nat := szModel c.model + szStore c.store + szRequestS c.requests
def fitEngine (c : LEngine) : Prop := fitModel c.model ∧ fitStore c.store ∧ fitRequestS c.requests
attribute [go_sem] xEngine_def
theorem invEngine {g : H2} {bs : List Nat} {ys : List X} {c : LEngine} (o : OTs g bs ys (eEngine c)) : ∃ b3 s3 b4 s4 b5 s5 b6 s6 b8 s8 b9 s9 b12 s12 b13 s13 b14 s14 b15 s15 b16 s16, ys = [.raw (.int .i64 c.model.dim), .raw (.int .i64 c.model.heads), .raw (.int .i64 c.model.context), s3, s4, s5, s6, .raw (.int .i64 c.model.head.width), s8, s9, .raw (.int .i64 c.model.head.mul), .raw (.int .i64 c.model.head.shift), s12, s13, s14, s15, s16] ∧ bs = b3 ++ (b4 ++ (b5 ++ (b6 ++ (b8 ++ (b9 ++ (b12 ++ (b13 ++ (b14 ++ (b15 ++ b16))))))))) ∧ OT g b3 s3 (.l 2 (rMergeS c.model.merges)) ∧ OT g b4 s4 (.l 1 (rIntSS c.model.embed)) ∧ OT g b5 s5 (.l 32 (rLayerS c.model.layers)) ∧ OT g b6 s6 (.l 1 (ints c.model.gainEnd)) ∧ OT g b8 s8 (.l 1 (rIntSS c.model.head.rows)) ∧ OT g b9 s9 (.l 1 (rIntSS c.model.head.scales)) ∧ OT g b12 s12 (.l 1 (rIntSS c.model.turns.cos)) ∧ OT g b13 s13 (.l 1 (rIntSS c.model.turns.sin)) ∧ OT g b14 s14 (.l 1 (ints c.store.refs)) ∧ OT g b15 s15 (.l 1 (rCellSS c.store.pages)) ∧ OT g b16 s16 (.l 10 (rRequestS c.requests)) := by
 unfold eEngine at o
 obtain ⟨ys0, rfl, o0⟩ := OTs.headv o
 obtain ⟨ys1, rfl, o1⟩ := OTs.headv o0
 obtain ⟨ys2, rfl, o2⟩ := OTs.headv o1
 obtain ⟨b3, bs3, s3, ys3, rfl, rfl, a3, o3⟩ := OTs.head o2
 obtain ⟨b4, bs4, s4, ys4, rfl, rfl, a4, o4⟩ := OTs.head o3
 obtain ⟨b5, bs5, s5, ys5, rfl, rfl, a5, o5⟩ := OTs.head o4
 obtain ⟨b6, bs6, s6, ys6, rfl, rfl, a6, o6⟩ := OTs.head o5
 obtain ⟨ys7, rfl, o7⟩ := OTs.headv o6
 obtain ⟨b8, bs8, s8, ys8, rfl, rfl, a8, o8⟩ := OTs.head o7
 obtain ⟨b9, bs9, s9, ys9, rfl, rfl, a9, o9⟩ := OTs.head o8
 obtain ⟨ys10, rfl, o10⟩ := OTs.headv o9
 obtain ⟨ys11, rfl, o11⟩ := OTs.headv o10
 obtain ⟨b12, bs12, s12, ys12, rfl, rfl, a12, o12⟩ := OTs.head o11
 obtain ⟨b13, bs13, s13, ys13, rfl, rfl, a13, o13⟩ := OTs.head o12
 obtain ⟨b14, bs14, s14, ys14, rfl, rfl, a14, o14⟩ := OTs.head o13
 obtain ⟨b15, bs15, s15, ys15, rfl, rfl, a15, o15⟩ := OTs.head o14
 obtain ⟨b16, bs16, s16, ys16, rfl, rfl, a16, o16⟩ := OTs.head o15
 obtain ⟨rfl, rfl⟩ := OTs.tail0 o16
 exact ⟨_, _, _, _, _, _, _, _, _, _, _, _, _, _, _, _, _, _, _, _, _, _, rfl, by simp only [List.append_nil], a3, a4, a5, a6, a8, a9, a12, a13, a14, a15, a16⟩
theorem outEngine {g : H2} {c : LEngine} {b3 b4 b5 b6 b8 b9 b12 b13 b14 b15 b16 : List Nat} {s3 s4 s5 s6 s8 s9 s12 s13 s14 s15 s16 : X} (a3 : OT g b3 s3 (.l 2 (rMergeS c.model.merges))) (a4 : OT g b4 s4 (.l 1 (rIntSS c.model.embed))) (a5 : OT g b5 s5 (.l 32 (rLayerS c.model.layers))) (a6 : OT g b6 s6 (.l 1 (ints c.model.gainEnd))) (a8 : OT g b8 s8 (.l 1 (rIntSS c.model.head.rows))) (a9 : OT g b9 s9 (.l 1 (rIntSS c.model.head.scales))) (a12 : OT g b12 s12 (.l 1 (rIntSS c.model.turns.cos))) (a13 : OT g b13 s13 (.l 1 (rIntSS c.model.turns.sin))) (a14 : OT g b14 s14 (.l 1 (ints c.store.refs))) (a15 : OT g b15 s15 (.l 1 (rCellSS c.store.pages))) (a16 : OT g b16 s16 (.l 10 (rRequestS c.requests))) : OTs g (b3 ++ (b4 ++ (b5 ++ (b6 ++ (b8 ++ (b9 ++ (b12 ++ (b13 ++ (b14 ++ (b15 ++ b16)))))))))) [.raw (.int .i64 c.model.dim), .raw (.int .i64 c.model.heads), .raw (.int .i64 c.model.context), s3, s4, s5, s6, .raw (.int .i64 c.model.head.width), s8, s9, .raw (.int .i64 c.model.head.mul), .raw (.int .i64 c.model.head.shift), s12, s13, s14, s15, s16] (eEngine c) := by
 have := OTs.cons (OT.raw (v := .int .i64 c.model.dim) rfl) (OTs.cons (OT.raw (v := .int .i64 c.model.heads) rfl) (OTs.cons (OT.raw (v := .int .i64 c.model.context) rfl) (OTs.cons a3 (OTs.cons a4 (OTs.cons a5 (OTs.cons a6 (OTs.cons (OT.raw (v := .int .i64 c.model.head.width) rfl) (OTs.cons a8 (OTs.cons a9 (OTs.cons (OT.raw (v := .int .i64 c.model.head.mul) rfl) (OTs.cons (OT.raw (v := .int .i64 c.model.head.shift) rfl) (OTs.cons a12 (OTs.cons a13 (OTs.cons a14 (OTs.cons a15 (OTs.cons a16 (OTs.nil)))))))))))))))))
 simpa only [eEngine, List.append_nil, List.nil_append] using this
theorem szEngine_ok {F : Nat → Adr} {c : LEngine} {left : Int} {h : H2} (hf : fitEngine c) (hl : 0 ≤ left ∧ left ≤ 1048576) : PW Tryz.prog W0 4 [.st (xEngine F c), .raw (.int .i64 left)] h (fun y => ∃ k : Int, y = .raw (.int .i64 k) ∧ (0 ≤ k → (szEngine c : Int) + k ≤ left)) := by
 unfold fitEngine at hf
 refine PW.scalar ?_
 refine begins [[0, 1], [1, 2], [1, 2], [], [1, 2], [1, 2], [], [1, 2], [1], [], [1]] Tryz.func4 rfl (rs := [.tmp 4]) rfl rfl ?_
 intro wf
 repeat (first | rw [ko] | rw [kr] | simp -dsimp -implicitDefEqProofs only [go_sem, rq1])
 refine pw_intro (szModel_ok (F := F) hf.1 ⟨by omega, by omega⟩) ?_
 rintro _ n0 hn0 ⟨k0, rfl, hk0⟩
 repeat (first | rw [ko] | rw [kr] | simp -dsimp -implicitDefEqProofs only [go_sem, rq1])
 refine gz_dec (fun q0 => ?_) (fun q0 => ?_)
 ·repeat (first | rw [ko] | rw [kr] | simp -dsimp -implicitDefEqProofs only [go_sem])
  exact ⟨zale, ⟨_, rfl⟩, _, rfl, fun hh => by omega⟩
 repeat (first | rw [ko] | rw [kr] | simp -dsimp -implicitDefEqProofs only [go_sem, rq1])
 refine pw_intro (szStore_ok (F := fun j => F (j + 14)) hf.2.1 ⟨by omega, by omega⟩) ?_
 rintro _ n1 hn1 ⟨k1, rfl, hk1⟩
 repeat (first | rw [ko] | rw [kr] | simp -dsimp -implicitDefEqProofs only [go_sem, rq1])
 refine gz_dec (fun q1 => ?_) (fun q1 => ?_)
 ·repeat (first | rw [ko] | rw [kr] | simp -dsimp -implicitDefEqProofs only [go_sem])
  exact ⟨zale, ⟨_, rfl⟩, _, rfl, fun hh => by omega⟩
 repeat (first | rw [ko] | rw [kr] | simp -dsimp -implicitDefEqProofs only [go_sem, rq1])
 refine pw_intro (szRequestS_pw  hf.2.2 ⟨by omega, by omega⟩) ?_
 rintro _ n2 hn2 ⟨k2, rfl, hk2⟩
 repeat (first | rw [ko] | rw [kr] | simp -dsimp -implicitDefEqProofs only [go_sem])
 refine gz_dec (fun q2 => ?_) (fun q2 => ?_)
 ·repeat (first | rw [ko] | rw [kr] | simp -dsimp -implicitDefEqProofs only [go_sem])
  exact ⟨zale, ⟨_, rfl⟩, _, rfl, fun hh => by omega⟩
 repeat (first | rw [ko] | rw [kr] | simp -dsimp -implicitDefEqProofs only [go_sem, rq1])
 exact ⟨zale, ⟨_, rfl⟩, _, rfl, fun hh => by unfold szEngine; omega⟩
theorem eqEngine_ok {F F' : Nat → Adr} {c : LEngine} {h : H2} (hf : fitEngine c) : PW Tryz.prog W0 8 [.st (xEngine F c), .st (xEngine F' c)] h (fun y => y = .raw (.bool true)) := by
 unfold fitEngine at hf
 refine PW.scalar ?_
 refine begins [[0, 1], [2, 3], [], [2, 3], [], [2, 3], [], []] Tryz.func8 rfl (rs := [.tmp 4]) rfl rfl ?_
 intro wf
 repeat (first | rw [ko] | rw [kr] | simp -dsimp -implicitDefEqProofs only [go_sem])
 refine pw_intro (eqModel_ok (F := fun j => F (j + 0)) (F' := fun j => F' (j + 0)) hf.1) ?_
 rintro _ n0 hn0 rfl
 repeat (first | rw [ko] | rw [kr] | simp -dsimp -implicitDefEqProofs only [go_sem, rq1])
 refine pw_intro (eqStore_ok (F := fun j => F (j + 14)) (F' := fun j => F' (j + 14)) hf.2.1) ?_
 rintro _ n1 hn1 rfl
 repeat (first | rw [ko] | rw [kr] | simp -dsimp -implicitDefEqProofs only [go_sem, rq1])
 refine pw_intro (eqRequestS_pw  hf.2.2) ?_
 rintro _ n2 hn2 rfl
 repeat (first | rw [ko] | rw [kr] | simp -dsimp -implicitDefEqProofs only [go_sem])
 exact ⟨zale, ⟨_, rfl⟩, rfl⟩
theorem toEngine_ok {F : Nat → Adr} {c : LEngine} {h : H2} (hs : szEngine c ≤ 1048576) : NewS Tryz.prog W0 6 [.st (xEngine F c)] h (eEngine c) := by
 unfold szEngine at hs
 refine begins [[0], [1, 2], [1, 2, 3], [1, 2, 3], [1, 2, 3], [2, 3]] Tryz.func6 rfl (rs := [.cell 2 51]) rfl rfl ?_
 intro wf
 repeat (first | rw [ko] | rw [kr] | simp -dsimp -implicitDefEqProofs only [go_sem])
 refine wz_intro (toModel_ok (F := F) (by omega)) ?_
 rintro _ g0 ⟨l0, ys0, b0, rfl, o0, bl0⟩
 obtain ⟨b0_3, s3, b0_4, s4, b0_5, s5, b0_6, s6, b0_8, s8, b0_9, s9, b0_12, s12, b0_13, s13, rfl, hb0, o0_3, o0_4, o0_5, o0_6, o0_8, o0_9, o0_12, o0_13⟩ := invModel o0
 have ce3 := OT.cell o0_3
 have ce4 := OT.cell o0_4
 have ce5 := OT.cell o0_5
 have ce6 := OT.cell o0_6
 have ce8 := OT.cell o0_8
 have ce9 := OT.cell o0_9
 have ce12 := OT.cell o0_12
 have ce13 := OT.cell o0_13
 have n0 := l0.n
 have a00 := l0.2 (hn h .mk) (by simp only [hn_push]; omega)
 have a01 := l0.2 (hn h .mk + 1) (by simp only [hn_push]; omega)
 have a02 := l0.2 (hn h .mk + 1 + 1) (by simp only [hn_push]; omega)
 simp -dsimp -implicitDefEqProofs only [go_sem, hoo] at n0 a00 a01 a02
 have L0 : h.le g0 := H2.le.trans zale l0
 repeat (first | rw [ko] | rw [kr] | simp -dsimp -implicitDefEqProofs only [go_sem, rq1, rq2, a00, a02, ce3, ce4, ce5, ce6, ce8, ce9, ce12, ce13])
 refine wz_intro (toStore_ok (F := fun j => F (j + 14)) (by omega)) ?_
 rintro _ g1 ⟨l1, ys1, b1, rfl, o1, bl1⟩
 obtain ⟨b1_0, s14, b1_1, s15, rfl, hb1, o1_0, o1_1⟩ := invStore o1
 have ce14 := OT.cell o1_0
 have ce15 := OT.cell o1_1
 have n1 := l1.n
 have a10 := l1.2 (hn h .mk) (by simp only [hn_set]; omega)
 have a11 := l1.2 (hn h .mk + 1) (by simp only [hn_set]; omega)
 have a12 := l1.2 (hn h .mk + 1 + 1) (by simp only [hn_set]; omega)
 simp -dsimp -implicitDefEqProofs only [go_sem, a00, a01, hoo] at n1 a10 a11 a12
 have L1 : h.le g1 := H2.le.trans zale l1
 repeat (first | rw [ko] | rw [kr] | simp -dsimp -implicitDefEqProofs only [go_sem, rq1, rq2, a10, a12, ce14, ce15])
 refine wz_intro (toRequestS_new  (by omega)) ?_
 rintro s16 g2 ⟨l2, b2, o2, bl2⟩
 have ce16 := OT.cell o2
 have n2 := l2.n
 have a20 := l2.2 (hn h .mk) (by simp only [hn_set]; omega)
 have a21 := l2.2 (hn h .mk + 1) (by simp only [hn_set]; omega)
 have a22 := l2.2 (hn h .mk + 1 + 1) (by simp only [hn_set]; omega)
 simp -dsimp -implicitDefEqProofs only [go_sem, a10, a11, hoo] at n2 a20 a21 a22
 have L2 : h.le g2 := H2.le.trans zale l2
 repeat (first | rw [ko] | rw [kr] | simp -dsimp -implicitDefEqProofs only [go_sem, rq1, rq2, a21, a22, ce3, ce4, ce5, ce6, ce8, ce9, ce12, ce13, ce14, ce15, ce16])
 refine ⟨zale, _, b0_3 ++ (b0_4 ++ (b0_5 ++ (b0_6 ++ (b0_8 ++ (b0_9 ++ (b0_12 ++ (b0_13 ++ (b1_0 ++ (b1_1 ++ b2))))))))), rfl, outEngine (c := c) ?_ ?_ ?_ ?_ ?_ ?_ ?_ ?_ ?_ ?_ ?_, ?_⟩
 ·refine OT.frame o0_3 fun b hb => ?_
  have hbl := bl0.2 b (by rw [hb0]; simp [hb])
  simp only [hn_push] at hbl
  simp only [H2.set]
  rw [if_neg (by omega), if_neg (by omega)]
  rw [show g2.get b = _ from l2.2 b (by simp only [hn_set]; omega)]
  simp only [hg, H2.set]
  rw [if_neg (by omega)]
  rw [show g1.get b = _ from l1.2 b (by simp only [hn_set]; omega)]
  simp only [hg, H2.set]
  rw [if_neg (by omega)]
 ·refine OT.frame o0_4 fun b hb => ?_
  have hbl := bl0.2 b (by rw [hb0]; simp [hb])
  simp only [hn_push] at hbl
  simp only [H2.set]
  rw [if_neg (by omega), if_neg (by omega)]
  rw [show g2.get b = _ from l2.2 b (by simp only [hn_set]; omega)]
  simp only [hg, H2.set]
  rw [if_neg (by omega)]
  rw [show g1.get b = _ from l1.2 b (by simp only [hn_set]; omega)]
  simp only [hg, H2.set]
  rw [if_neg (by omega)]
 ·refine OT.frame o0_5 fun b hb => ?_
  have hbl := bl0.2 b (by rw [hb0]; simp [hb])
  simp only [hn_push] at hbl
  simp only [H2.set]
  rw [if_neg (by omega), if_neg (by omega)]
  rw [show g2.get b = _ from l2.2 b (by simp only [hn_set]; omega)]
  simp only [hg, H2.set]
  rw [if_neg (by omega)]
  rw [show g1.get b = _ from l1.2 b (by simp only [hn_set]; omega)]
  simp only [hg, H2.set]
  rw [if_neg (by omega)]
 ·refine OT.frame o0_6 fun b hb => ?_
  have hbl := bl0.2 b (by rw [hb0]; simp [hb])
  simp only [hn_push] at hbl
  simp only [H2.set]
  rw [if_neg (by omega), if_neg (by omega)]
  rw [show g2.get b = _ from l2.2 b (by simp only [hn_set]; omega)]
  simp only [hg, H2.set]
  rw [if_neg (by omega)]
  rw [show g1.get b = _ from l1.2 b (by simp only [hn_set]; omega)]
  simp only [hg, H2.set]
  rw [if_neg (by omega)]
 ·refine OT.frame o0_8 fun b hb => ?_
  have hbl := bl0.2 b (by rw [hb0]; simp [hb])
  simp only [hn_push] at hbl
  simp only [H2.set]
  rw [if_neg (by omega), if_neg (by omega)]
  rw [show g2.get b = _ from l2.2 b (by simp only [hn_set]; omega)]
  simp only [hg, H2.set]
  rw [if_neg (by omega)]
  rw [show g1.get b = _ from l1.2 b (by simp only [hn_set]; omega)]
  simp only [hg, H2.set]
  rw [if_neg (by omega)]
 ·refine OT.frame o0_9 fun b hb => ?_
  have hbl := bl0.2 b (by rw [hb0]; simp [hb])
  simp only [hn_push] at hbl
  simp only [H2.set]
  rw [if_neg (by omega), if_neg (by omega)]
  rw [show g2.get b = _ from l2.2 b (by simp only [hn_set]; omega)]
  simp only [hg, H2.set]
  rw [if_neg (by omega)]
  rw [show g1.get b = _ from l1.2 b (by simp only [hn_set]; omega)]
  simp only [hg, H2.set]
  rw [if_neg (by omega)]
 ·refine OT.frame o0_12 fun b hb => ?_
  have hbl := bl0.2 b (by rw [hb0]; simp [hb])
  simp only [hn_push] at hbl
  simp only [H2.set]
  rw [if_neg (by omega), if_neg (by omega)]
  rw [show g2.get b = _ from l2.2 b (by simp only [hn_set]; omega)]
  simp only [hg, H2.set]
  rw [if_neg (by omega)]
  rw [show g1.get b = _ from l1.2 b (by simp only [hn_set]; omega)]
  simp only [hg, H2.set]
  rw [if_neg (by omega)]
 ·refine OT.frame o0_13 fun b hb => ?_
  have hbl := bl0.2 b (by rw [hb0]; simp [hb])
  simp only [hn_push] at hbl
  simp only [H2.set]
  rw [if_neg (by omega), if_neg (by omega)]
  rw [show g2.get b = _ from l2.2 b (by simp only [hn_set]; omega)]
  simp only [hg, H2.set]
  rw [if_neg (by omega)]
  rw [show g1.get b = _ from l1.2 b (by simp only [hn_set]; omega)]
  simp only [hg, H2.set]
  rw [if_neg (by omega)]
 ·refine OT.frame o1_0 fun b hb => ?_
  have hbl := bl1.2 b (by rw [hb1]; simp [hb])
  simp only [hn_set] at hbl
  simp only [H2.set]
  rw [if_neg (by omega), if_neg (by omega)]
  rw [show g2.get b = _ from l2.2 b (by simp only [hn_set]; omega)]
  simp only [hg, H2.set]
  rw [if_neg (by omega)]
 ·refine OT.frame o1_1 fun b hb => ?_
  have hbl := bl1.2 b (by rw [hb1]; simp [hb])
  simp only [hn_set] at hbl
  simp only [H2.set]
  rw [if_neg (by omega), if_neg (by omega)]
  rw [show g2.get b = _ from l2.2 b (by simp only [hn_set]; omega)]
  simp only [hg, H2.set]
  rw [if_neg (by omega)]
 ·refine OT.frame o2 fun b hb => ?_
  have hbl := bl2.2 b (hb)
  simp only [hn_set] at hbl
  simp only [H2.set]
  rw [if_neg (by omega), if_neg (by omega)]
 ·simp only [hn_set]
  have m0 := bl0
  simp only [hn_push] at m0
  rw [hb0] at m0
  have m1 := bl1
  simp only [hn_set] at m1
  rw [hb1] at m1
  have m2 := bl2
  simp only [hn_set] at m2
  have := ((Bl.append m0 (Bl.append m1 m2 (by omega) (by omega)) (by omega) (by omega))).wide (N' := hn h .mk) (by omega) (Nat.le_refl _)
  simpa only [List.append_assoc] using this
end Go.Bi
end
section
set_option maxRecDepth 20000
namespace Go.Bi
open Go.Proofs
open Go.Ai (wrap_i64 wrap_u8 Heap)
def reqB (e : LEngine) (r : LRequest) : Bool :=
 cfgOk r.config && (inI r.prompt 1 24 && (!decide (r.prompt + r.config.new > e.model.context) && (inI r.status 0 4 && (inI r.tokens.length r.prompt (r.prompt + r.config.new) &&
  (!(decide (r.status = 0) && decide ((r.tokens.length : Int) = r.prompt + r.config.new)) && (allI r.tokens 0 (vocI e.model - 1) && (tableB e.store r.table && (!decide (r.table.count > (r.tokens.length : Int)) &&
   (!(decide (¬ r.status = 0) && decide ((r.table.pages.length : Int) > 0)) && (!decide (needI (r.prompt + r.config.new) > (e.store.refs.length : Int)) && !((cellsL e.store r.table r.table.pages.length).any fun c => !cellB c e.model)))))))))))
def bump (w : List Int) (p : Int) : List Int := w.set p.toNat (w.getD p.toNat default + 1)
def wantsL (n : Nat) (rs : List LRequest) : List Int := rs.foldl (fun w r => r.table.pages.foldl bump w) (List.replicate n 0)
def engB (e : LEngine) : Bool :=
 modelB e.model && (storeB e.store && (decide ((e.requests.length : Int) ≤ 10) && ((e.requests.all (reqB e)) && decide (wantsL e.store.refs.length e.requests = e.store.refs))))
theorem bump_len {w : List Int} {p : Int} : (bump w p).length = w.length := by simp [bump]
theorem bumps_len : ∀ {ps : List Int} {w : List Int}, (ps.foldl bump w).length = w.length
 | [], _ => rfl
 | p :: ps, w => by rw [List.foldl_cons, bumps_len, bump_len]
theorem wants_len {n : Nat} {rs : List LRequest} : (wantsL n rs).length = n := by
 have : ∀ (rs : List LRequest) (w : List Int), (rs.foldl (fun w r => r.table.pages.foldl bump w) w).length = w.length := by
  intro rs
  induction rs with
  | nil => intro w; rfl
  | cons r rs ih => intro w; rw [List.foldl_cons, ih, bumps_len]
 rw [wantsL, this]; simp
def inB (B : Int) (w : List Int) : Prop := ∀ i, 0 ≤ w.getD i default ∧ w.getD i default ≤ B
theorem bump_in {w : List Int} {p B : Int} (hB : 0 ≤ B) (h : inB B w) : inB (B + 1) (bump w p) := fun i => by
 unfold bump
 rw [List.getD_eq_getElem?_getD, List.getElem?_set]
 have h1 := h i
 have h2 := h p.toNat
 rw [List.getD_eq_getElem?_getD] at h1
 split
 ·split
  ·show 0 ≤ w.getD p.toNat default + 1 ∧ w.getD p.toNat default + 1 ≤ B + 1
   omega
  ·show (0 : Int) ≤ 0 ∧ (0 : Int) ≤ B + 1
   omega
 ·omega
theorem bumps_in : ∀ {ps : List Int} {w : List Int} {B : Int}, 0 ≤ B → inB B w → inB (B + ps.length) (ps.foldl bump w)
 | [], w, B, _, h => by simpa using h
 | p :: ps, w, B, hB, h => by
  have := bumps_in (ps := ps) (by omega) (bump_in (p := p) hB h)
  rw [List.foldl_cons, List.length_cons]
  rwa [show B + 1 + (ps.length : Int) = B + ((ps.length + 1 : Nat) : Int) by omega] at this
theorem wants_snoc {n : Nat} {rs : List LRequest} {i : Nat} (hi : i < rs.length) : wantsL n (rs.take (i + 1)) = (rs.getD i default).table.pages.foldl bump (wantsL n (rs.take i)) := by
 unfold wantsL
 rw [List.take_succ_eq_append_getElem hi, List.foldl_append, List.getD_eq_getElem?_getD, List.getElem?_eq_getElem hi]
 rfl
theorem bumps_snoc {ps w : List Int} {k : Nat} (hk : k < ps.length) : (ps.take (k + 1)).foldl bump w = bump ((ps.take k).foldl bump w) (ps.getD k default) := by
 rw [List.take_succ_eq_append_getElem hk, List.foldl_append, List.getD_eq_getElem?_getD, List.getElem?_eq_getElem hk]
 rfl
theorem wants_in {n : Nat} {rs : List LRequest} (h : ∀ i, i < rs.length → (rs.getD i default).table.pages.length ≤ 16) : ∀ i, i ≤ rs.length → inB (16 * i) (wantsL n (rs.take i)) := by
 intro i
 induction i with
 | zero =>
  intro _ k
  show 0 ≤ (List.replicate n (0 : Int)).getD k default ∧ (List.replicate n (0 : Int)).getD k default ≤ _
  rw [List.getD_eq_getElem?_getD, List.getElem?_replicate]
  split <;> simp [default]
 | succ i ih =>
  intro hi
  rw [wants_snoc (by omega)]
  have h1 := bumps_in (ps := (rs.getD i default).table.pages) (B := 16 * i) (by omega) (ih (by omega))
  have h2 := h i (by omega)
  intro k
  have := h1 k
  omega
def smallPages (s : LStore) : Prop := ∀ i, i < s.pages.length → smallC (s.pages.getD i default)
def smallReq (r : LRequest) : Prop := r.tokens.length ≤ 1048576 ∧ r.config.stops.length ≤ 1048576 ∧ r.table.pages.length ≤ 1048576
def smallEng (e : LEngine) : Prop := smallMod e.model ∧ e.store.refs.length ≤ 1048576 ∧ smallPages e.store ∧ e.requests.length ≤ 1048576 ∧ ∀ i, i < e.requests.length → smallReq (e.requests.getD i default)
theorem getD_memR {α : Type} [Inhabited α] {l : List α} {i : Nat} (h : i < l.length) : l.getD i default ∈ l := by
 rw [List.getD_eq_getElem?_getD, List.getElem?_eq_getElem h]; exact List.getElem_mem h
theorem smallC_mem {l : List LCell} (h : smallC l) {c : LCell} (hc : c ∈ l) : smallPP c.keys ∧ smallPP c.values := by
 obtain ⟨i, hi, rfl⟩ := List.getElem_of_mem hc
 have := h.2 i hi
 rwa [List.getD_eq_getElem?_getD, List.getElem?_eq_getElem hi] at this
theorem flat_lenR {α : Type} {f : Nat → List α} {B : Nat} : ∀ {k : Nat}, (∀ i, i < k → (f i).length ≤ B) → ((List.range k).flatMap f).length ≤ k * B
 | 0, _ => by simp
 | k + 1, h => by
  rw [List.range_succ, List.flatMap_append, List.length_append]
  have h1 := flat_lenR (k := k) fun i hi => h i (by omega)
  have h2 := h k (by omega)
  rw [Nat.add_mul]
  simp only [List.flatMap_cons, List.flatMap_nil, List.append_nil]
  omega
theorem last_le {c : Int} {i : Nat} : (lastI c i).toNat ≤ 4 := by unfold lastI; split <;> omega
theorem cells_small {s : LStore} {t : LTable} (hs : smallPages s) {k : Nat} (hk : k ≤ 1000) : smallC (cellsL s t k) := by
  refine ⟨?_, fun i hi => ?_⟩
  · have := flat_lenR (f := fun i => (rowL s t i).take (lastI t.count i).toNat) (B := 4) (k := k) fun i hi => by
      have := last_le (c := t.count) (i := i)
      rw [List.length_take]; omega
    unfold cellsL
    omega
  · have hm := getD_memR hi
    unfold cellsL at hm
    obtain ⟨j, _, hj⟩ := List.mem_flatMap.1 hm
    have hj := List.mem_of_mem_take hj
    unfold rowL at hj
    by_cases hp : (t.pages.getD j default).toNat < s.pages.length
    · exact smallC_mem (hs _ hp) hj
    · rw [List.getD_eq_getElem?_getD, List.getElem?_eq_none (by omega)] at hj
      cases hj
theorem reqB_pages {e : LEngine} {r : LRequest} (h : reqB e r = true) : r.table.pages.length ≤ 16 ∧ tableB e.store r.table = true := by
 unfold reqB at h
 simp only [Bool.and_eq_true] at h
 have ht := h.2.2.2.2.2.2.2.1
 obtain ⟨h1, h2, h3, h4⟩ := table_t ht
 obtain ⟨c, hc⟩ := Int.eq_ofNat_of_zero_le h1
 rw [hc, need_nat] at h3
 exact ⟨by omega, ht⟩
theorem sum_at {α : Type} [Inhabited α] {f : α → Nat} {l : List α} {i : Nat} (hi : i < l.length) : f (l.getD i default) ≤ sumN f l := sumN_mem (getD_memR hi)
theorem smallL_of {l : List (List Int)} (h : szIntSS l ≤ 1048576) : smallL l := ⟨by unfold szIntSS at h; omega, fun r hr => by
 have h1 : r.length ≤ sumN szIntS l := sumN_mem (f := szIntS) hr
 unfold szIntSS at h
 omega⟩
theorem smallM_of {m : LMatrix} (h : szMatrix m ≤ 1048576) : smallM m := by
 unfold szMatrix at h
 exact ⟨smallL_of (by omega), smallL_of (by omega)⟩
theorem smallY_of {l : LLayer} (h : szLayer l ≤ 1048576) : smallY l := by
 unfold szLayer at h
 exact ⟨by omega, by omega, smallM_of (by omega), smallM_of (by omega), smallM_of (by omega), smallM_of (by omega), smallM_of (by omega), smallM_of (by omega)⟩
theorem smallMod_of {m : LModel} (h : szModel m ≤ 1048576) : smallMod m := by
 unfold szModel szMergeS szLayerS szTurns at h
 refine ⟨by omega, smallL_of (by omega), by omega, fun i hi => smallY_of ?_, by omega, smallM_of (by omega), smallL_of (by omega), smallL_of (by omega)⟩
 have := sum_at (f := szLayer) hi
 omega
theorem smallP_of {l : List LPart} (h : szPartS l ≤ 1048576) : smallP l := by
 unfold szPartS at h
 refine ⟨by omega, fun i hi => ?_⟩
 have h1 : (l.getD i default).values.length ≤ sumN szPart l := sum_at (f := szPart) hi
 omega
theorem smallPP_of {l : List (List LPart)} (h : szPartSS l ≤ 1048576) : smallPP l := by
 unfold szPartSS at h
 refine ⟨by omega, fun i hi => smallP_of ?_⟩
 have := sum_at (f := szPartS) hi
 omega
theorem smallC_of {l : List LCell} (h : szCellS l ≤ 1048576) : smallC l := by
 unfold szCellS at h
 refine ⟨by omega, fun i hi => ?_⟩
 have h1 : szPartSS (l.getD i default).keys + szPartSS (l.getD i default).values ≤ sumN szCell l := sum_at (f := szCell) hi
 exact ⟨smallPP_of (by omega), smallPP_of (by omega)⟩
theorem smallEng_of {e : LEngine} (h : szEngine e ≤ 1048576) : smallEng e := by
 unfold szEngine szStore szRequestS szCellSS at h
 refine ⟨smallMod_of (by omega), by omega, fun i hi => smallC_of ?_, by omega, fun i hi => ?_⟩
 ·have := sum_at (f := szCellS) hi
  omega
 ·have h1 : (e.requests.getD i default).tokens.length + ((e.requests.getD i default).config.stops.length + sumL (e.requests.getD i default).config.stops) + (e.requests.getD i default).table.pages.length ≤ sumN szRequest e.requests := sum_at (f := szRequest) hi
  exact ⟨by omega, by omega, by omega⟩
theorem modelB_w {m : LModel} (h : modelB m = true) : m.dim = 4 ∨ m.dim = 8 := by
 unfold modelB at h
 simp only [Bool.and_eq_true] at h
 exact width_rng h.1
theorem modelB_h {m : LModel} (h : modelB m = true) : m.heads = 1 ∨ m.heads = 2 := by
 unfold modelB at h
 simp only [Bool.and_eq_true] at h
 have := inI_tt h.2.1
 omega
theorem storeB_len {s : LStore} (h : storeB s = true) : s.pages.length = s.refs.length ∧ s.refs.length ≤ 16 := by
 unfold storeB poolB at h
 simp only [Bool.and_eq_true, decide_eq_true_eq] at h
 omega
end Go.Bi
end
section
set_option maxRecDepth 20000
namespace Go.Bi
open Go.Proofs
open Go.Ai (wrap_i64 wrap_u8 Heap)
variable {W0 : World} {P : Program}
set_option maxHeartbeats 4000000
theorem rCellS_take {l : List LCell} {k : Nat} : (rCellS l).take k = rCellS (l.take k) := by simp [rCellS]
theorem flat_len4 (s : LStore) (t : LTable) : ∀ (i : Nat), (cellsL s t i).length ≤ i * 4
 | 0 => by simp [cellsL]
 | i + 1 => by
  have h := flat_len4 s t i
  unfold cellsL at h ⊢
  have hl : (lastI t.count i).toNat ≤ 4 := by unfold lastI; split <;> omega
  rw [List.range_succ, List.flatMap_append, List.length_append, List.flatMap_cons, List.flatMap_nil, List.append_nil, List.length_take]
  omega
theorem cellsOf_ok {F F' : Nat → Adr} {s : LStore} {t : LTable} {g : H2} (hp : s.pages.length = s.refs.length) (ht : tableB s t = true) : PW Tryz.prog W0 136 [.st (xStore F s), .st (xTable F' t)] g (fun y => ∃ f, y = .sl f 2 (rCellS (cellsL s t t.pages.length))) := by
 obtain ⟨t1, t2, t3, t4⟩ := table_t ht
 have t5 : t.pages.length ≤ 16 := by
  obtain ⟨c, hc⟩ := Int.eq_ofNat_of_zero_le t1
  rw [hc, need_nat] at t3
  omega
 refine (PW.of (q := fun _ => True) (Q := fun y => ∃ f, y = .sl f 2 (rCellS (cellsL s t t.pages.length))) ?_).mono fun y h => h.1
 refine begins [[0, 1], [2, 3], [2, 3, 5], [2, 3, 5, 9, 10, 11], [2, 3, 5, 9, 10, 11], [2, 3, 5, 6, 7, 9, 10, 11], [2, 3, 5, 9, 10, 11], [5]] Tryz.func136 rfl (rs := [.tmp 4]) rfl rfl ?_
 intro wf
 have hne : (hn g .mk == hn g .mk + 1) = false := by simp
 repeat (first | rw [ko] | rw [kr] | simp -dsimp -implicitDefEqProofs only [go_sem, hoo])
 refine lz_keep [2, 3, 9, 10] (fun mm e h' => ∃ (i : Nat) (v : X) (cs : List X), g.le h' ∧ hn g .mk + 2 ≤ hn h' .mk ∧ hg h' (hn g .mk) .mk = some ⟨2, [.sl (F 0) 1 (ints s.refs), .sl (F 1) 1 (rCellSS s.pages)]⟩ ∧ hg h' (hn g .mk + 1) .mk = some ⟨2, [.sl (F' 0) 1 (ints t.pages), .raw (.int .i64 t.count)]⟩ ∧ look e 11 .mk = .raw (.int .i64 (i : Nat)) ∧ look e 5 .mk = v ∧ mm + i = t.pages.length ∧ Own (hn g .mk + 2) h' v 2 (cellsL s t i).length cs ∧ CellRow cs (cellsL s t i)) t.pages.length ?_ ?_
 ·exact ⟨0, _, [], le_push (le_push (H2.le.refl _)), by simp only [hn_push]; omega, by simp -dsimp -implicitDefEqProofs only [go_sem, hoo, hne], by simp -dsimp -implicitDefEqProofs only [go_sem, hoo], zsm, by simp -dsimp -implicitDefEqProofs only [go_sem, rq1] <;> rfl, by omega, Own.nil, .nil⟩
 rintro mm e h' hks ⟨i, v, cs, hle, hnn, r1, r2, ei, ev, hm, ow, hc⟩
 simp -dsimp -implicitDefEqProofs only [go_sem, rq1] at hks
 by_cases q1 : (i : Int) < (t.pages.length : Int)
 rotate_left
 ·repeat (first | rw [ko] | rw [kr] | simp -dsimp -implicitDefEqProofs only [go_sem, rq1, hks, ei, ev, q1])
  have hii : i = t.pages.length := by omega
  rw [hii] at ow hc
  obtain ⟨f, hf⟩ := cells_fz (p := fun b => hn g .mk ≤ b) ow hc (fun b hb => by omega)
  exact ⟨hle, _, hf, f, rfl⟩
 have q2 : i < t.pages.length := by omega
 have w1 := zwrs i (by omega)
 obtain ⟨p1, p2, p3⟩ := pgB_t (t4 i q2)
 obtain ⟨k, hk⟩ := Int.eq_ofNat_of_zero_le p1.1
 have k2 : k < s.pages.length := by omega
 have hrow : rowL s t i = s.pages.getD k default := by unfold rowL; rw [hk]; rfl
 have h4 : 4 * (i : Int) < t.count := by
  obtain ⟨c, hc⟩ := Int.eq_ofNat_of_zero_le t1
  rw [hc, need_nat] at t3
  omega
 have hla : 0 ≤ lastI t.count i ∧ lastI t.count i ≤ 4 := by unfold lastI; split <;> omega
 obtain ⟨m, hmm⟩ := Int.eq_ofNat_of_zero_le hla.1
 have hkt : (t.pages.getD i default).toNat = k := by omega
 have b1 : (m : Int) ≤ ((s.pages.getD k default).length : Int) := by rw [hkt] at p3; omega
 have hstep : cellsL s t (i + 1) = cellsL s t i ++ (s.pages.getD k default).take m := by
  unfold cellsL
  rw [List.range_succ, List.flatMap_append, List.flatMap_cons, List.flatMap_nil, List.append_nil, hrow, hmm]
  rfl
 have hle2 : (cellsL s t i).length ≤ i * 4 := flat_len4 _ _ _
 repeat (first | rw [ko] | rw [kr] | simp -dsimp -implicitDefEqProofs only [go_sem, rq1, hks, ei, ev, q1, q2])
 refine dq_intro [(0, []), (1, []), (2, []), (3, []), (4, []), (5, []), (6, []), (7, []), (8, [2, 5]), (9, []), (10, []), (11, [])] (by kernel_rfl) ?_
 repeat (first | rw [ko] | rw [kr] | simp -dsimp -implicitDefEqProofs only [go_sem, rq1, r1, r2, hk, k2])
 refine pw_intro (lastCells_ok (F := F') (t := t) (by omega) (by omega)) ?_
 rintro _ n3 hn3 rfl
 try (rw [kq]; refine ⟨by simp -dsimp -implicitDefEqProofs only [go_sem, rq1, r1, hk], ?_⟩)
 rw [hmm]
 repeat (first | rw [ko] | rw [kr] | simp -dsimp -implicitDefEqProofs only [go_sem, rq1, b1, rCellS_take])
 refine append_cellX (P := Tryz.prog) (l' := (s.pages.getD k default).take (m - 0)) (D := fun _ => none) (N := hn g .mk + 2) Go.Ai.ty_el132 Go.Ai.ty_zr166 rfl Go.Ai.ty_cl132 (Own.keep ow (le_up (H2.le.refl _) hn3)) hc (by rw [hn_up]; omega) (by rw [List.length_take]; have : Go.Ai.most = 1099511627776 := rfl; omega) ?_
 intro v4 g4 cs4 ow4 hc4 nn4 le4 on4
 rw [hn_up] at nn4
 rw [Nat.sub_zero, ← hstep] at ow4 hc4
 have ap : ∀ b, b < hn g .mk + 2 → blockOf v ≠ some b := fun b hb e => by
  obtain ⟨_, h⟩ := ow
  rcases h with ⟨rfl, _⟩ | ⟨q, rfl, a1, _⟩
  ·cases e
  ·simp only [blockOf, Option.some.injEq] at e; omega
 have r3 : hg g4 (hn g .mk) .mk = _ := (on4 (hn g .mk) (by rw [hn_up]; omega) (ap _ (by omega))).trans r1
 have r4 : hg g4 (hn g .mk + 1) .mk = _ := (on4 (hn g .mk + 1) (by rw [hn_up]; omega) (ap _ (by omega))).trans r2
 repeat (first | rw [ko] | rw [kr] | simp -dsimp -implicitDefEqProofs only [go_sem, rq1, w1])
 refine nx_keep (mm - 1) (by omega) zsm ⟨i + 1, v4, cs4, ?_, by omega, r3, r4, zsm, zsm, by omega, ow4, hc4⟩
 exact le4 g (by omega) (le_up hle hn3)
theorem l15Cells_ok {F F' : Nat → Adr} {s : LStore} {t : LTable} {g : H2} (hp : s.pages.length = s.refs.length) (ht : tableB s t = true) : PW Tryz.prog W0 98 [.st (xStore F s), .st (xTable F' t)] g (fun y => ∃ f, y = .sl f 2 (rCellS (cellsL s t t.pages.length))) := by
 obtain ⟨t1, t2, t3, t4⟩ := table_t ht
 rw [cells_eq ht]
 obtain ⟨c, hc0⟩ := Int.eq_ofNat_of_zero_le t1
 have t5 : t.pages.length = (c + 3) / 4 := by
  rw [hc0, need_nat] at t3
  omega
 have t6 : t.count.toNat = c := by omega
 rw [t6]
 refine (PW.of (q := fun _ => True) (Q := fun y => ∃ f, y = .sl f 2 (rCellS ((List.range c).map (cellJ s t)))) ?_).mono fun y h => h.1
 refine begins [[0, 1], [2, 3], [2, 3, 5], [2, 3, 5, 6], [2, 3, 5, 6], [2, 3, 5, 6], [5]] Tryz.func98 rfl (rs := [.tmp 4]) rfl rfl ?_
 intro wf
 have hne : (hn g .mk == hn g .mk + 1) = false := by simp
 have hne2 : (hn g .mk == hn g .mk + 1 + 1) = false := zne
 have hne3 : (hn g .mk + 1 == hn g .mk + 1 + 1) = false := by simp
 repeat (first | rw [ko] | rw [kr] | simp -dsimp -implicitDefEqProofs only [go_sem, rq1, rq2, rq3, hoo])
 refine lz_keep [2, 3] (fun mm e h' => ∃ (i : Nat) (v : X) (cs : List X), g.le h' ∧ hn g .mk + 2 ≤ hn h' .mk ∧ hg h' (hn g .mk) .mk = some ⟨2, [.sl (F 0) 1 (ints s.refs), .sl (F 1) 1 (rCellSS s.pages)]⟩ ∧ hg h' (hn g .mk + 1) .mk = some ⟨2, [.sl (F' 0) 1 (ints t.pages), .raw (.int .i64 t.count)]⟩ ∧ look e 6 .mk = .raw (.int .i64 (i : Nat)) ∧ look e 5 .mk = v ∧ mm + i = c ∧ Own (hn g .mk + 2) h' v 2 ((List.range i).map (cellJ s t)).length cs ∧ CellRow cs ((List.range i).map (cellJ s t))) c ?_ ?_
 ·exact ⟨0, _, [], le_push (le_push (le_push (H2.le.refl _))), by simp only [hn_push]; omega, by simp -dsimp -implicitDefEqProofs only [go_sem, hoo, hne, hne2], by simp -dsimp -implicitDefEqProofs only [go_sem, hoo, hne3], zsm, by simp -dsimp -implicitDefEqProofs only [go_sem] <;> rfl, by omega, Own.new (by simp only [hn_push]; omega) rfl, .nil⟩
 rintro mm e h' hks ⟨i, v, cs, hle, hnn, r1, r2, ei, ev, hm, ow, hc⟩
 simp -dsimp -implicitDefEqProofs only [go_sem] at hks
 by_cases q1 : (i : Int) < t.count
 rotate_left
 ·repeat (first | rw [ko] | rw [kr] | simp -dsimp -implicitDefEqProofs only [go_sem, rq1, hks, ei, ev, q1, r2])
  have hii : i = c := by omega
  rw [hii] at ow hc
  obtain ⟨f, hf⟩ := cells_fz (p := fun b => hn g .mk ≤ b) ow hc (fun b hb => by omega)
  exact ⟨hle, _, hf, f, rfl⟩
 have w1 := zwrs i (by omega)
 have e2 : Int.tdiv (i : Int) 4 = ((i / 4 : Nat) : Int) := rfl
 have e3 : Int.tmod (i : Int) 4 = ((i % 4 : Nat) : Int) := rfl
 have w2 : IntKind.i64.wrap (Int.tdiv (i : Int) 4) = ((i / 4 : Nat) : Int) := by rw [e2, wrap_i64] <;> omega
 have w3 : IntKind.i64.wrap (Int.tmod (i : Int) 4) = ((i % 4 : Nat) : Int) := by rw [e3, wrap_i64] <;> omega
 have q2 : i / 4 < t.pages.length := by omega
 obtain ⟨p1, p2, p3⟩ := pgB_t (t4 (i / 4) q2)
 obtain ⟨k, hk⟩ := Int.eq_ofNat_of_zero_le p1.1
 have k2 : k < s.pages.length := by omega
 have hkt : (t.pages.getD (i / 4) default).toNat = k := by omega
 have k3 : i % 4 < (s.pages.getD k default).length := by
  rw [hkt] at p3
  unfold lastI at p3
  split at p3 <;> omega
 have hcell : cellJ s t i = (s.pages.getD k default).getD (i % 4) default := by unfold cellJ rowL; rw [hkt]
 have hstep : (List.range (i + 1)).map (cellJ s t) = (List.range i).map (cellJ s t) ++ [(s.pages.getD k default).getD (i % 4) default] := by
  rw [List.range_succ, List.map_append, List.map_cons, List.map_nil, hcell]
 repeat (first | rw [ko] | rw [kr] | simp -dsimp -implicitDefEqProofs only [go_sem, rq1, hks, ei, ev, q1, r2])
 refine dq_intro [(0, []), (1, []), (2, []), (3, []), (4, []), (5, []), (6, []), (7, []), (8, []), (9, []), (10, []), (11, []), (12, []), (13, []), (14, []), (15, []), (16, []), (17, [])] (by kernel_rfl) ?_
 repeat (first | rw [ko] | rw [kr] | simp -dsimp -implicitDefEqProofs only [go_sem, rq1, rq2, rq3, rq4, rq7, q2, r1, r2, hk, k2, k3, w2, e3])
 refine append_cellX (P := Tryz.prog) (l' := [(s.pages.getD k default).getD (i % 4) default]) (D := fun _ => none) (N := hn g .mk + 2) Go.Ai.ty_el132 Go.Ai.ty_zr166 rfl Go.Ai.ty_cl132 (Own.keep ow (le_up (H2.le.refl _) (Nat.le_succ _))) hc (by rw [hn_up]; omega) (by rw [List.length_map, List.length_range]; have : Go.Ai.most = 1099511627776 := rfl; simp only [List.length_cons, List.length_nil]; omega) ?_
 intro v4 g4 cs4 ow4 hc4 nn4 le4 on4
 rw [hn_up] at nn4
 rw [← hstep] at ow4 hc4
 have ap : ∀ b, b < hn g .mk + 2 → blockOf v ≠ some b := fun b hb e => by
  obtain ⟨_, h⟩ := ow
  rcases h with ⟨rfl, _⟩ | ⟨q, rfl, a1, _⟩
  ·cases e
  ·simp only [blockOf, Option.some.injEq] at e; omega
 have r3 : hg g4 (hn g .mk) .mk = _ := (on4 (hn g .mk) (by rw [hn_up]; omega) (ap _ (by omega))).trans r1
 have r4 : hg g4 (hn g .mk + 1) .mk = _ := (on4 (hn g .mk + 1) (by rw [hn_up]; omega) (ap _ (by omega))).trans r2
 repeat (first | rw [ko] | rw [kr] | simp -dsimp -implicitDefEqProofs only [go_sem, rq1, w1])
 refine nx_keep (mm - 1) (by omega) zsm ⟨i + 1, v4, cs4, ?_, by omega, r3, r4, zsm, zsm, by omega, ow4, hc4⟩
 exact le4 g (by omega) (le_up hle (Nat.le_succ _))
end Go.Bi
end
