/- Own lemmas that the theorem of this claim needs: the abstract machine and walks of functions. -/
import Derived.Test.YtjofbadmkigkjaaGreatReLawAO
set_option linter.unusedSimpArgs false
set_option linter.unusedVariables false
open Nat renaming reduceBEq → rq1, reduceAdd → rq2, reduceLeDiff → rq3, reduceMul → rq4
open Int renaming reduceLE → rq5, reduceLT → rq6, reduceBEq → rq7
section
set_option maxRecDepth 20000
namespace Go.Bi
open Go.Proofs
open Go.Ai (wrap_i64 wrap_u8 Heap)
variable {W0 : World} {P : Program}
set_option maxHeartbeats 4000000
theorem heads_eq {x : Int} : inI x 1 2 = (decide (x = 1) || decide (x = 2)) := by
 rw [Bool.eq_iff_iff]
 simp only [inI, Bool.and_eq_true, Bool.or_eq_true, decide_eq_true_eq]
 omega
theorem specModel_ok {F : Nat → Adr} {m : LModel} {g : H2} (hs : smallMod m) : PW Tryz.prog W0 51 [.st (xModel F m)] g (fun y => y = .raw (.bool (modelB m))) := by
 obtain ⟨s1, s2, s3, s4, s5, s6, s7, s8⟩ := hs
 refine PW.scalar ?_
 refine begins [[0], [1], [], [1], [1, 3], [1, 3], [1, 3], [], [1], [1, 4], [1, 4], [1, 4], [], [1]] Tryz.func51 rfl (rs := [.tmp 2]) rfl rfl ?_
 intro wf
 repeat (first | rw [ko] | rw [kr] | simp -dsimp -implicitDefEqProofs only [go_sem, hoo])
 refine dq_intro [(0, []), (1, []), (2, []), (3, []), (4, []), (5, []), (6, []), (7, []), (8, []), (9, []), (10, []), (11, []), (12, []), (13, []), (14, []), (15, []), (16, []), (17, []), (18, []), (19, []), (20, []), (21, []), (22, []), (23, []), (24, []), (25, [22]), (26, []), (27, []), (28, []), (29, []), (30, []), (31, []), (32, []), (33, []), (34, [])] (by kernel_rfl) ?_
 repeat (first | rw [ko] | rw [kr] | simp -dsimp -implicitDefEqProofs only [go_sem, hoo])
 refine wz_intro l05Width_ok ?_
 rintro _ _ ⟨rfl, rfl⟩
 cases h1 : widthB m.dim
 ·repeat (first | rw [ko] | rw [kr] | simp -dsimp -implicitDefEqProofs only [go_sem, rq1, hoo])
  exact ⟨le_push (H2.le.refl _), ⟨_, rfl⟩, by rw [modelB, h1]; rfl⟩
 by_cases h2 : m.heads = 1 ∨ m.heads = 2
 rotate_left
 ·have e1 : decide (¬ m.heads = 1) = true := decide_eq_true (fun h => h2 (.inl h))
  have e2 : decide (¬ m.heads = 2) = true := decide_eq_true (fun h => h2 (.inr h))
  repeat (first | rw [ko] | rw [kr] | simp -dsimp -implicitDefEqProofs only [go_sem, rq1, hoo, e1, e2])
  exact ⟨le_push (H2.le.refl _), ⟨_, rfl⟩, by rw [modelB, h1, heads_eq, decide_eq_false (fun h => h2 (.inl h)), decide_eq_false (fun h => h2 (.inr h))]; rfl⟩
 have heq : inI m.heads 1 2 = true := by
  rw [heads_eq]
  rcases h2 with h2 | h2 <;> rw [h2] <;> rfl
 have mid : ∀ {A : Prop}, (decide (¬ m.heads = 1) = false → A) → (decide (¬ m.heads = 1) = true → decide (¬ m.heads = 2) = false → A) → A := fun a b => by
  rcases h2 with h2 | h2
  ·exact a (decide_eq_false (fun h => h h2))
  ·exact b (decide_eq_true (by omega)) (decide_eq_false (fun h => h h2))
 refine mid (fun e1 => ?_) (fun e1 e2 => ?_)
 ·repeat (first | rw [ko] | rw [kr] | simp -dsimp -implicitDefEqProofs only [go_sem, rq1, hoo, e1])
  refine pw_intro (specMergesOk_ok s1) ?_
  rintro _ n1 hn1 rfl
  try (rw [kq]; refine ⟨zsm, ?_⟩)
  cases h3 : mergesB m.merges
  ·repeat (first | rw [ko] | rw [kr] | simp -dsimp -implicitDefEqProofs only [go_sem, rq1, hoo])
   exact ⟨zale, ⟨_, rfl⟩, by rw [modelB, h1, heq, h3]; rfl⟩
  repeat (first | rw [ko] | rw [kr] | simp -dsimp -implicitDefEqProofs only [go_sem, rq1, hoo])
  refine pw_intro (voc2_ok (F := F) (m := m) s1) ?_
  rintro _ n2 hn2 rfl
  try (rw [kq]; refine ⟨by simp -dsimp -implicitDefEqProofs only [go_sem, rq1, hoo], ?_⟩)
  by_cases h4 : (m.embed.length : Int) = vocI m
  rotate_left
  ·have e4 : decide (¬ (m.embed.length : Int) = vocI m) = true := decide_eq_true h4
   repeat (first | rw [ko] | rw [kr] | simp -dsimp -implicitDefEqProofs only [go_sem, rq1, hoo, e4])
   exact ⟨zale, ⟨_, rfl⟩, by rw [modelB, h1, heq, h3, decide_eq_false h4]; rfl⟩
  have e4 : decide (¬ (m.embed.length : Int) = vocI m) = false := decide_eq_false (fun h => h h4)
  repeat (first | rw [ko] | rw [kr] | simp -dsimp -implicitDefEqProofs only [go_sem, rq1, hoo, e4])
  refine wz_intro l01In_ok ?_
  rintro _ _ ⟨rfl, rfl⟩
  try (rw [kq]; refine ⟨zsm, ?_⟩)
  cases h5 : inI m.layers.length 1 2
  ·repeat (first | rw [ko] | rw [kr] | simp -dsimp -implicitDefEqProofs only [go_sem, rq1, hoo])
   exact ⟨zale, ⟨_, rfl⟩, by rw [modelB, h1, heq, h3, decide_eq_true h4, h5]; rfl⟩
  repeat (first | rw [ko] | rw [kr] | simp -dsimp -implicitDefEqProofs only [go_sem, rq1, hoo])
  simp only [hn_up, hn_push] at hn1 hn2
  refine lz_keep [1] (fun mm e h' => ∃ (i : Nat), g.le h' ∧ hn g .mk < hn h' .mk ∧ hg h' (hn g .mk) .mk = some ⟨14, [.raw (.int .i64 m.dim), .raw (.int .i64 m.heads), .raw (.int .i64 m.context), .sl (F 3) 2 (rMergeS m.merges), .sl (F 4) 1 (rIntSS m.embed), .sl (F 5) 32 (rLayerS m.layers), .sl (F 6) 1 (ints m.gainEnd), .raw (.int .i64 m.head.width), .sl (F 8) 1 (rIntSS m.head.rows), .sl (F 9) 1 (rIntSS m.head.scales), .raw (.int .i64 m.head.mul), .raw (.int .i64 m.head.shift), .sl (F 12) 1 (rIntSS m.turns.cos), .sl (F 13) 1 (rIntSS m.turns.sin)]⟩ ∧ look e 3 .mk = .raw (.int .i64 (i : Nat)) ∧ mm + i = m.embed.length ∧ ∀ j, j < i → embB m.dim (m.embed.getD j default) = true) m.embed.length ?_ ?_
  ·exact ⟨0, zale, by simp only [hn_up]; omega, by simp -dsimp -implicitDefEqProofs only [go_sem, hoo], zsm, by omega, fun j hj => by omega⟩
  rintro mm e h' hks ⟨i, hle, hlt, row, ei, hm, hpre⟩
  simp -dsimp -implicitDefEqProofs only [go_sem] at hks
  by_cases q1 : (i : Int) < (m.embed.length : Int)
  ·have q2 : i < m.embed.length := by omega
   have hsz := s2.1
   have w1 := zwrs i (by omega)
   have bad : embB m.dim (m.embed.getD i default) = false → modelB m = false := fun h => by
    rw [modelB, h1, heq, h3, decide_eq_true h4, h5, any_getD (p := fun r => !embB m.dim r) q2 (by simp only [h]; rfl)]; rfl
   by_cases q4 : ((m.embed.getD i default).length : Int) = m.dim
   ·have e5 : decide (¬ ((m.embed.getD i default).length : Int) = m.dim) = false := decide_eq_false (fun h => h q4)
    repeat (first | rw [ko] | rw [kr] | simp -dsimp -implicitDefEqProofs only [go_sem, rq1, hks, ei, q1, row])
    refine dq_intro [(0, []), (1, []), (2, []), (3, []), (4, []), (5, []), (6, []), (7, []), (8, []), (9, []), (10, []), (11, []), (12, []), (13, []), (14, []), (15, []), (16, []), (17, [])] (by kernel_rfl) ?_
    repeat (first | rw [ko] | rw [kr] | simp -dsimp -implicitDefEqProofs only [go_sem, rq1, q2, row, e5])
    refine pw_intro (l05All_ok (by have := smallL_at s2 i; omega)) ?_
    rintro _ n3 hn3 rfl
    cases q5 : allI (m.embed.getD i default) (-127) 127
    ·repeat (first | rw [ko] | rw [kr] | simp -dsimp -implicitDefEqProofs only [go_sem, rq1])
     exact ⟨le_up hle hn3, ⟨_, rfl⟩, by rw [bad (by rw [embB, q5, Bool.and_false])]⟩
    ·repeat (first | rw [ko] | rw [kr] | simp -dsimp -implicitDefEqProofs only [go_sem, rq1, w1])
     refine nx_keep (mm - 1) (by omega) zsm ⟨i + 1, le_up hle hn3, by simp only [hn_up]; omega, by simp -dsimp -implicitDefEqProofs only [go_sem, row], zsm, by omega, fun j hj => ?_⟩
     by_cases hji : j = i
     ·subst hji; rw [embB, decide_eq_true q4, q5]; rfl
     ·exact hpre j (by omega)
   ·have e5 : decide (¬ ((m.embed.getD i default).length : Int) = m.dim) = true := decide_eq_true q4
    repeat (first | rw [ko] | rw [kr] | simp -dsimp -implicitDefEqProofs only [go_sem, rq1, hks, ei, q1, row])
    refine dq_intro [(0, []), (1, []), (2, []), (3, []), (4, []), (5, []), (6, []), (7, []), (8, []), (9, []), (10, []), (11, []), (12, []), (13, []), (14, []), (15, []), (16, []), (17, [])] (by kernel_rfl) ?_
    repeat (first | rw [ko] | rw [kr] | simp -dsimp -implicitDefEqProofs only [go_sem, rq1, q2, row, e5])
    exact ⟨hle, ⟨_, rfl⟩, by rw [bad (by rw [embB, decide_eq_false q4]; rfl)]⟩
  have h6 : (m.embed.any fun r => !embB m.dim r) = false := any_none fun j hj => by rw [hpre j (by omega)]; rfl
  repeat (first | rw [ko] | rw [kr] | simp -dsimp -implicitDefEqProofs only [go_sem, rq1, hks, ei, q1, row])
  refine lz_keep [1] (fun m2 e2 h2' => ∃ (k : Nat), g.le h2' ∧ hn g .mk < hn h2' .mk ∧ hg h2' (hn g .mk) .mk = some ⟨14, [.raw (.int .i64 m.dim), .raw (.int .i64 m.heads), .raw (.int .i64 m.context), .sl (F 3) 2 (rMergeS m.merges), .sl (F 4) 1 (rIntSS m.embed), .sl (F 5) 32 (rLayerS m.layers), .sl (F 6) 1 (ints m.gainEnd), .raw (.int .i64 m.head.width), .sl (F 8) 1 (rIntSS m.head.rows), .sl (F 9) 1 (rIntSS m.head.scales), .raw (.int .i64 m.head.mul), .raw (.int .i64 m.head.shift), .sl (F 12) 1 (rIntSS m.turns.cos), .sl (F 13) 1 (rIntSS m.turns.sin)]⟩ ∧ look e2 4 .mk = .raw (.int .i64 (k : Nat)) ∧ m2 + k = m.layers.length ∧ ∀ j, j < k → layB (m.layers.getD j default) m.dim = true) m.layers.length ?_ ?_
  ·exact ⟨0, hle, hlt, row, zsm, by omega, fun j hj => by omega⟩
  rintro m2 e2 h2' hks2 ⟨k, hle2, hlt2, row2, ek, hm2, hpre2⟩
  simp -dsimp -implicitDefEqProofs only [go_sem] at hks2
  by_cases q1 : (k : Int) < (m.layers.length : Int)
  ·have q2 : k < m.layers.length := by omega
   have w1 := zwrs k (by omega)
   repeat (first | rw [ko] | rw [kr] | simp -dsimp -implicitDefEqProofs only [go_sem, rq1, hks2, ek, q1, row2])
   refine dq_intro [(0, []), (1, []), (2, []), (3, []), (4, []), (5, []), (6, []), (7, []), (8, [])] (by kernel_rfl) ?_
   repeat (first | rw [ko] | rw [kr] | simp -dsimp -implicitDefEqProofs only [go_sem, rq1, rq2, rq3, q2, row2])
   refine pw_intro (specLayer_ok (F := fun j => under (under (F 5) k) j) (l := m.layers.getD k default) (s4 k q2)) ?_
   rintro _ n3 hn3 rfl
   rw [h1, Bool.true_and]
   cases q5 : layB (m.layers.getD k default) m.dim
   ·repeat (first | rw [ko] | rw [kr] | simp -dsimp -implicitDefEqProofs only [go_sem])
    exact ⟨le_up hle2 hn3, ⟨_, rfl⟩, by rw [modelB, h1, heq, h3, decide_eq_true h4, h5, h6, any_getD (p := fun l => !layB l m.dim) q2 (by simp only [q5]; rfl)]; rfl⟩
   ·repeat (first | rw [ko] | rw [kr] | simp -dsimp -implicitDefEqProofs only [go_sem, rq1, w1])
    refine nx_keep (m2 - 1) (by omega) zsm ⟨k + 1, le_up hle2 hn3, by simp only [hn_up]; omega, by simp -dsimp -implicitDefEqProofs only [go_sem, row2], zsm, by omega, fun j hj => ?_⟩
    by_cases hji : j = k
    ·subst hji; exact q5
    ·exact hpre2 j (by omega)
  have h7 : (m.layers.any fun l => !layB l m.dim) = false := any_none fun j hj => by rw [hpre2 j (by omega)]; rfl
  repeat (first | rw [ko] | rw [kr] | simp -dsimp -implicitDefEqProofs only [go_sem, rq1, hks2, ek, q1, row2])
  refine dq_intro [(0, []), (1, []), (2, []), (3, []), (4, []), (5, []), (6, []), (7, []), (8, []), (9, []), (10, []), (11, [7, 9]), (12, []), (13, []), (14, []), (15, []), (16, []), (17, []), (18, []), (19, []), (20, []), (21, []), (22, []), (23, []), (24, []), (25, []), (26, []), (27, [])] (by kernel_rfl) ?_
  repeat (first | rw [ko] | rw [kr] | simp -dsimp -implicitDefEqProofs only [go_sem, rq1, row2, hoo])
  refine pw_intro (specGain_ok s5) ?_
  rintro _ n5 hn5 rfl
  try (rw [kq]; refine ⟨zsm, ?_⟩)
  cases h8 : gainB m.gainEnd m.dim
  ·repeat (first | rw [ko] | rw [kr] | simp -dsimp -implicitDefEqProofs only [go_sem, rq1, hoo])
   exact ⟨zale, ⟨_, rfl⟩, by rw [modelB, h1, heq, h3, decide_eq_true h4, h5, h6, h7, h8]; rfl⟩
  repeat (first | rw [ko] | rw [kr] | simp -dsimp -implicitDefEqProofs only [go_sem, rq1, row2, hoo])
  refine pw_intro (voc2_ok (F := F) (m := m) s1) ?_
  rintro _ n6 hn6 rfl
  simp only [hn_up] at hn6
  try (rw [kq]; refine ⟨by simp -dsimp -implicitDefEqProofs only [go_sem, rq1, row2, hoo], ?_⟩)
  repeat (first | rw [ko] | rw [kr] | simp -dsimp -implicitDefEqProofs only [go_sem, rq1, hoo])
  refine pw_intro (l10Matrix_ok (F := fun j => F (j + 7)) (m := m.head) s6) ?_
  rintro _ n7 hn7 rfl
  simp only [hn_up] at hn7
  try (rw [kq]; refine ⟨zsm, ?_⟩)
  cases h9 : withB m.head m.dim (vocI m)
  ·repeat (first | rw [ko] | rw [kr] | simp -dsimp -implicitDefEqProofs only [go_sem, rq1, hoo])
   exact ⟨zale, ⟨_, rfl⟩, by rw [modelB, h1, heq, h3, decide_eq_true h4, h5, h6, h7, h8, h9]; rfl⟩
  have hw := width_rng h1
  have hh : m.heads = 1 ∨ m.heads = 2 := by have := inI_tt heq; omega
  have z0 : (m.heads == 0) = false := zne
  have w1 : IntKind.i64.wrap (Int.tdiv m.dim m.heads) = Int.tdiv m.dim m.heads := by
   rcases hw with hw | hw <;> rcases hh with hh | hh <;> rw [hw, hh] <;> decide
  have w2 : IntKind.i64.wrap (Int.tdiv (Int.tdiv m.dim m.heads) 2) = Int.tdiv (Int.tdiv m.dim m.heads) 2 := by
   rcases hw with hw | hw <;> rcases hh with hh | hh <;> rw [hw, hh] <;> decide
  repeat (first | rw [ko] | rw [kr] | simp -dsimp -implicitDefEqProofs only [go_sem, rq1, rq7, row2, hoo, z0, w1, w2])
  refine pw_intro (specTurns_ok (F := fun j => F (j + 12)) (t := m.turns) s7 s8) ?_
  rintro _ n8 hn8 rfl
  simp only [hn_up] at hn8
  try (rw [kq]; refine ⟨zsm, ?_⟩)
  repeat (first | rw [ko] | rw [kr] | simp -dsimp -implicitDefEqProofs only [go_sem, rq1, hoo])
  exact ⟨zale, ⟨_, rfl⟩, by rw [modelB, h1, heq, h3, decide_eq_true h4, h5, h6, h7, h8, h9]; rfl⟩
 ·repeat (first | rw [ko] | rw [kr] | simp -dsimp -implicitDefEqProofs only [go_sem, rq1, hoo, e1, e2])
  refine pw_intro (specMergesOk_ok s1) ?_
  rintro _ n1 hn1 rfl
  try (rw [kq]; refine ⟨zsm, ?_⟩)
  cases h3 : mergesB m.merges
  ·repeat (first | rw [ko] | rw [kr] | simp -dsimp -implicitDefEqProofs only [go_sem, rq1, hoo])
   exact ⟨zale, ⟨_, rfl⟩, by rw [modelB, h1, heq, h3]; rfl⟩
  repeat (first | rw [ko] | rw [kr] | simp -dsimp -implicitDefEqProofs only [go_sem, rq1, hoo])
  refine pw_intro (voc2_ok (F := F) (m := m) s1) ?_
  rintro _ n2 hn2 rfl
  try (rw [kq]; refine ⟨by simp -dsimp -implicitDefEqProofs only [go_sem, rq1, hoo], ?_⟩)
  by_cases h4 : (m.embed.length : Int) = vocI m
  rotate_left
  ·have e4 : decide (¬ (m.embed.length : Int) = vocI m) = true := decide_eq_true h4
   repeat (first | rw [ko] | rw [kr] | simp -dsimp -implicitDefEqProofs only [go_sem, rq1, hoo, e4])
   exact ⟨zale, ⟨_, rfl⟩, by rw [modelB, h1, heq, h3, decide_eq_false h4]; rfl⟩
  have e4 : decide (¬ (m.embed.length : Int) = vocI m) = false := decide_eq_false (fun h => h h4)
  repeat (first | rw [ko] | rw [kr] | simp -dsimp -implicitDefEqProofs only [go_sem, rq1, hoo, e4])
  refine wz_intro l01In_ok ?_
  rintro _ _ ⟨rfl, rfl⟩
  try (rw [kq]; refine ⟨zsm, ?_⟩)
  cases h5 : inI m.layers.length 1 2
  ·repeat (first | rw [ko] | rw [kr] | simp -dsimp -implicitDefEqProofs only [go_sem, rq1, hoo])
   exact ⟨zale, ⟨_, rfl⟩, by rw [modelB, h1, heq, h3, decide_eq_true h4, h5]; rfl⟩
  repeat (first | rw [ko] | rw [kr] | simp -dsimp -implicitDefEqProofs only [go_sem, rq1, hoo])
  simp only [hn_up, hn_push] at hn1 hn2
  refine lz_keep [1] (fun mm e h' => ∃ (i : Nat), g.le h' ∧ hn g .mk < hn h' .mk ∧ hg h' (hn g .mk) .mk = some ⟨14, [.raw (.int .i64 m.dim), .raw (.int .i64 m.heads), .raw (.int .i64 m.context), .sl (F 3) 2 (rMergeS m.merges), .sl (F 4) 1 (rIntSS m.embed), .sl (F 5) 32 (rLayerS m.layers), .sl (F 6) 1 (ints m.gainEnd), .raw (.int .i64 m.head.width), .sl (F 8) 1 (rIntSS m.head.rows), .sl (F 9) 1 (rIntSS m.head.scales), .raw (.int .i64 m.head.mul), .raw (.int .i64 m.head.shift), .sl (F 12) 1 (rIntSS m.turns.cos), .sl (F 13) 1 (rIntSS m.turns.sin)]⟩ ∧ look e 3 .mk = .raw (.int .i64 (i : Nat)) ∧ mm + i = m.embed.length ∧ ∀ j, j < i → embB m.dim (m.embed.getD j default) = true) m.embed.length ?_ ?_
  ·exact ⟨0, zale, by simp only [hn_up]; omega, by simp -dsimp -implicitDefEqProofs only [go_sem, hoo], zsm, by omega, fun j hj => by omega⟩
  rintro mm e h' hks ⟨i, hle, hlt, row, ei, hm, hpre⟩
  simp -dsimp -implicitDefEqProofs only [go_sem] at hks
  by_cases q1 : (i : Int) < (m.embed.length : Int)
  ·have q2 : i < m.embed.length := by omega
   have hsz := s2.1
   have w1 := zwrs i (by omega)
   have bad : embB m.dim (m.embed.getD i default) = false → modelB m = false := fun h => by
    rw [modelB, h1, heq, h3, decide_eq_true h4, h5, any_getD (p := fun r => !embB m.dim r) q2 (by simp only [h]; rfl)]; rfl
   by_cases q4 : ((m.embed.getD i default).length : Int) = m.dim
   ·have e5 : decide (¬ ((m.embed.getD i default).length : Int) = m.dim) = false := decide_eq_false (fun h => h q4)
    repeat (first | rw [ko] | rw [kr] | simp -dsimp -implicitDefEqProofs only [go_sem, rq1, hks, ei, q1, row])
    refine dq_intro [(0, []), (1, []), (2, []), (3, []), (4, []), (5, []), (6, []), (7, []), (8, []), (9, []), (10, []), (11, []), (12, []), (13, []), (14, []), (15, []), (16, []), (17, [])] (by kernel_rfl) ?_
    repeat (first | rw [ko] | rw [kr] | simp -dsimp -implicitDefEqProofs only [go_sem, rq1, q2, row, e5])
    refine pw_intro (l05All_ok (by have := smallL_at s2 i; omega)) ?_
    rintro _ n3 hn3 rfl
    cases q5 : allI (m.embed.getD i default) (-127) 127
    ·repeat (first | rw [ko] | rw [kr] | simp -dsimp -implicitDefEqProofs only [go_sem, rq1])
     exact ⟨le_up hle hn3, ⟨_, rfl⟩, by rw [bad (by rw [embB, q5, Bool.and_false])]⟩
    ·repeat (first | rw [ko] | rw [kr] | simp -dsimp -implicitDefEqProofs only [go_sem, rq1, w1])
     refine nx_keep (mm - 1) (by omega) zsm ⟨i + 1, le_up hle hn3, by simp only [hn_up]; omega, by simp -dsimp -implicitDefEqProofs only [go_sem, row], zsm, by omega, fun j hj => ?_⟩
     by_cases hji : j = i
     ·subst hji; rw [embB, decide_eq_true q4, q5]; rfl
     ·exact hpre j (by omega)
   ·have e5 : decide (¬ ((m.embed.getD i default).length : Int) = m.dim) = true := decide_eq_true q4
    repeat (first | rw [ko] | rw [kr] | simp -dsimp -implicitDefEqProofs only [go_sem, rq1, hks, ei, q1, row])
    refine dq_intro [(0, []), (1, []), (2, []), (3, []), (4, []), (5, []), (6, []), (7, []), (8, []), (9, []), (10, []), (11, []), (12, []), (13, []), (14, []), (15, []), (16, []), (17, [])] (by kernel_rfl) ?_
    repeat (first | rw [ko] | rw [kr] | simp -dsimp -implicitDefEqProofs only [go_sem, rq1, q2, row, e5])
    exact ⟨hle, ⟨_, rfl⟩, by rw [bad (by rw [embB, decide_eq_false q4]; rfl)]⟩
  have h6 : (m.embed.any fun r => !embB m.dim r) = false := any_none fun j hj => by rw [hpre j (by omega)]; rfl
  repeat (first | rw [ko] | rw [kr] | simp -dsimp -implicitDefEqProofs only [go_sem, rq1, hks, ei, q1, row])
  refine lz_keep [1] (fun m2 e2 h2' => ∃ (k : Nat), g.le h2' ∧ hn g .mk < hn h2' .mk ∧ hg h2' (hn g .mk) .mk = some ⟨14, [.raw (.int .i64 m.dim), .raw (.int .i64 m.heads), .raw (.int .i64 m.context), .sl (F 3) 2 (rMergeS m.merges), .sl (F 4) 1 (rIntSS m.embed), .sl (F 5) 32 (rLayerS m.layers), .sl (F 6) 1 (ints m.gainEnd), .raw (.int .i64 m.head.width), .sl (F 8) 1 (rIntSS m.head.rows), .sl (F 9) 1 (rIntSS m.head.scales), .raw (.int .i64 m.head.mul), .raw (.int .i64 m.head.shift), .sl (F 12) 1 (rIntSS m.turns.cos), .sl (F 13) 1 (rIntSS m.turns.sin)]⟩ ∧ look e2 4 .mk = .raw (.int .i64 (k : Nat)) ∧ m2 + k = m.layers.length ∧ ∀ j, j < k → layB (m.layers.getD j default) m.dim = true) m.layers.length ?_ ?_
  ·exact ⟨0, hle, hlt, row, zsm, by omega, fun j hj => by omega⟩
  rintro m2 e2 h2' hks2 ⟨k, hle2, hlt2, row2, ek, hm2, hpre2⟩
  simp -dsimp -implicitDefEqProofs only [go_sem] at hks2
  by_cases q1 : (k : Int) < (m.layers.length : Int)
  ·have q2 : k < m.layers.length := by omega
   have w1 := zwrs k (by omega)
   repeat (first | rw [ko] | rw [kr] | simp -dsimp -implicitDefEqProofs only [go_sem, rq1, hks2, ek, q1, row2])
   refine dq_intro [(0, []), (1, []), (2, []), (3, []), (4, []), (5, []), (6, []), (7, []), (8, [])] (by kernel_rfl) ?_
   repeat (first | rw [ko] | rw [kr] | simp -dsimp -implicitDefEqProofs only [go_sem, rq1, rq2, rq3, q2, row2])
   refine pw_intro (specLayer_ok (F := fun j => under (under (F 5) k) j) (l := m.layers.getD k default) (s4 k q2)) ?_
   rintro _ n3 hn3 rfl
   rw [h1, Bool.true_and]
   cases q5 : layB (m.layers.getD k default) m.dim
   ·repeat (first | rw [ko] | rw [kr] | simp -dsimp -implicitDefEqProofs only [go_sem])
    exact ⟨le_up hle2 hn3, ⟨_, rfl⟩, by rw [modelB, h1, heq, h3, decide_eq_true h4, h5, h6, any_getD (p := fun l => !layB l m.dim) q2 (by simp only [q5]; rfl)]; rfl⟩
   ·repeat (first | rw [ko] | rw [kr] | simp -dsimp -implicitDefEqProofs only [go_sem, rq1, w1])
    refine nx_keep (m2 - 1) (by omega) zsm ⟨k + 1, le_up hle2 hn3, by simp only [hn_up]; omega, by simp -dsimp -implicitDefEqProofs only [go_sem, row2], zsm, by omega, fun j hj => ?_⟩
    by_cases hji : j = k
    ·subst hji; exact q5
    ·exact hpre2 j (by omega)
  have h7 : (m.layers.any fun l => !layB l m.dim) = false := any_none fun j hj => by rw [hpre2 j (by omega)]; rfl
  repeat (first | rw [ko] | rw [kr] | simp -dsimp -implicitDefEqProofs only [go_sem, rq1, hks2, ek, q1, row2])
  refine dq_intro [(0, []), (1, []), (2, []), (3, []), (4, []), (5, []), (6, []), (7, []), (8, []), (9, []), (10, []), (11, [7, 9]), (12, []), (13, []), (14, []), (15, []), (16, []), (17, []), (18, []), (19, []), (20, []), (21, []), (22, []), (23, []), (24, []), (25, []), (26, []), (27, [])] (by kernel_rfl) ?_
  repeat (first | rw [ko] | rw [kr] | simp -dsimp -implicitDefEqProofs only [go_sem, rq1, row2, hoo])
  refine pw_intro (specGain_ok s5) ?_
  rintro _ n5 hn5 rfl
  try (rw [kq]; refine ⟨zsm, ?_⟩)
  cases h8 : gainB m.gainEnd m.dim
  ·repeat (first | rw [ko] | rw [kr] | simp -dsimp -implicitDefEqProofs only [go_sem, rq1, hoo])
   exact ⟨zale, ⟨_, rfl⟩, by rw [modelB, h1, heq, h3, decide_eq_true h4, h5, h6, h7, h8]; rfl⟩
  repeat (first | rw [ko] | rw [kr] | simp -dsimp -implicitDefEqProofs only [go_sem, rq1, row2, hoo])
  refine pw_intro (voc2_ok (F := F) (m := m) s1) ?_
  rintro _ n6 hn6 rfl
  simp only [hn_up] at hn6
  try (rw [kq]; refine ⟨by simp -dsimp -implicitDefEqProofs only [go_sem, rq1, row2, hoo], ?_⟩)
  repeat (first | rw [ko] | rw [kr] | simp -dsimp -implicitDefEqProofs only [go_sem, rq1, hoo])
  refine pw_intro (l10Matrix_ok (F := fun j => F (j + 7)) (m := m.head) s6) ?_
  rintro _ n7 hn7 rfl
  simp only [hn_up] at hn7
  try (rw [kq]; refine ⟨zsm, ?_⟩)
  cases h9 : withB m.head m.dim (vocI m)
  ·repeat (first | rw [ko] | rw [kr] | simp -dsimp -implicitDefEqProofs only [go_sem, rq1, hoo])
   exact ⟨zale, ⟨_, rfl⟩, by rw [modelB, h1, heq, h3, decide_eq_true h4, h5, h6, h7, h8, h9]; rfl⟩
  have hw := width_rng h1
  have hh : m.heads = 1 ∨ m.heads = 2 := by have := inI_tt heq; omega
  have z0 : (m.heads == 0) = false := zne
  have w1 : IntKind.i64.wrap (Int.tdiv m.dim m.heads) = Int.tdiv m.dim m.heads := by
   rcases hw with hw | hw <;> rcases hh with hh | hh <;> rw [hw, hh] <;> decide
  have w2 : IntKind.i64.wrap (Int.tdiv (Int.tdiv m.dim m.heads) 2) = Int.tdiv (Int.tdiv m.dim m.heads) 2 := by
   rcases hw with hw | hw <;> rcases hh with hh | hh <;> rw [hw, hh] <;> decide
  repeat (first | rw [ko] | rw [kr] | simp -dsimp -implicitDefEqProofs only [go_sem, rq1, rq7, row2, hoo, z0, w1, w2])
  refine pw_intro (specTurns_ok (F := fun j => F (j + 12)) (t := m.turns) s7 s8) ?_
  rintro _ n8 hn8 rfl
  simp only [hn_up] at hn8
  try (rw [kq]; refine ⟨zsm, ?_⟩)
  repeat (first | rw [ko] | rw [kr] | simp -dsimp -implicitDefEqProofs only [go_sem, rq1, hoo])
  exact ⟨zale, ⟨_, rfl⟩, by rw [modelB, h1, heq, h3, decide_eq_true h4, h5, h6, h7, h8, h9]; rfl⟩
end Go.Bi
end
section
set_option maxRecDepth 20000
namespace Go.Bi
open Go.Proofs
open Go.Ai (wrap_i64 wrap_u8 Heap)
variable {W0 : World} {P : Program}
set_option maxHeartbeats 4000000
def poolB (r : List Int) : Bool := decide ((r.length : Int) ≤ 16) && allI r 0 20
def pageB (s : LStore) (i : Nat) : Bool := decide (((s.pages.getD i default).length : Int) ≤ 4) && !(decide (s.refs.getD i default = 0) && decide (((s.pages.getD i default).length : Int) > 0))
def storeB (s : LStore) : Bool := poolB s.refs && (decide ((s.pages.length : Int) = s.refs.length) && (List.range s.pages.length).all (pageB s))
theorem implPool_ok {f : Adr} {r : List Int} {g : H2} (hr : r.length ≤ 1048576) : PW Tryz.prog W0 146 [.sl f 1 (ints r)] g (fun y => y = .raw (.bool (poolB r))) := by
 refine PW.scalar ?_
 refine begins [[0], [0]] Tryz.func146 rfl (rs := [.tmp 2]) rfl rfl ?_
 intro wf
 by_cases h1 : (r.length : Int) ≤ 16
 ·have d1 : decide ((r.length : Int) ≤ 16) = true := decide_eq_true h1
  repeat (first | rw [ko] | rw [kr] | simp -dsimp -implicitDefEqProofs only [go_sem, rq1, d1])
  refine pw_intro (allIn_ok (by omega)) ?_
  rintro _ n1 hn1 rfl
  repeat (first | rw [ko] | rw [kr] | simp -dsimp -implicitDefEqProofs only [go_sem])
  exact ⟨le_up (H2.le.refl _) hn1, ⟨_, rfl⟩, by rw [poolB, d1]; rfl⟩
 ·have d1 : decide ((r.length : Int) ≤ 16) = false := decide_eq_false h1
  repeat (first | rw [ko] | rw [kr] | simp -dsimp -implicitDefEqProofs only [go_sem, d1])
  exact ⟨H2.le.refl _, ⟨_, rfl⟩, by rw [poolB, d1]; rfl⟩
theorem specPool_ok {f : Adr} {r : List Int} {g : H2} (hr : r.length ≤ 1048576) : PW Tryz.prog W0 57 [.sl f 1 (ints r)] g (fun y => y = .raw (.bool (poolB r))) := by
 refine PW.scalar ?_
 refine begins [[0], [0]] Tryz.func57 rfl (rs := [.tmp 2]) rfl rfl ?_
 intro wf
 by_cases h1 : (r.length : Int) ≤ 16
 ·have d1 : decide ((r.length : Int) ≤ 16) = true := decide_eq_true h1
  repeat (first | rw [ko] | rw [kr] | simp -dsimp -implicitDefEqProofs only [go_sem, rq1, d1])
  refine pw_intro (l05All_ok (by omega)) ?_
  rintro _ n1 hn1 rfl
  repeat (first | rw [ko] | rw [kr] | simp -dsimp -implicitDefEqProofs only [go_sem])
  exact ⟨le_up (H2.le.refl _) hn1, ⟨_, rfl⟩, by rw [poolB, d1]; rfl⟩
 ·have d1 : decide ((r.length : Int) ≤ 16) = false := decide_eq_false h1
  repeat (first | rw [ko] | rw [kr] | simp -dsimp -implicitDefEqProofs only [go_sem, d1])
  exact ⟨H2.le.refl _, ⟨_, rfl⟩, by rw [poolB, d1]; rfl⟩
theorem implStore_ok {F : Nat → Adr} {s : LStore} {g : H2} (hr : s.refs.length ≤ 1048576) : PW Tryz.prog W0 54 [.st (xStore F s)] g (fun y => y = .raw (.bool (storeB s))) := by
 refine PW.scalar ?_
 refine begins [[0], [1], [], [1], [1, 19, 20, 21], [1, 19, 20, 21], [1, 3, 4, 19, 20, 21], [], [1, 19, 20, 21], []] Tryz.func54 rfl (rs := [.tmp 2]) rfl rfl ?_
 intro wf
 repeat (first | rw [ko] | rw [kr] | simp -dsimp -implicitDefEqProofs only [go_sem, hoo])
 refine pw_intro (implPool_ok hr) ?_
 rintro _ n1 hn1 rfl
 simp only [hn_push] at hn1
 have L1 : ∀ k : OB, g.le ((g.push k).up n1) := fun k => le_up (le_push (H2.le.refl _)) (by rw [hn_push]; exact hn1)
 cases h1 : poolB s.refs
 ·repeat (first | rw [ko] | rw [kr] | simp -dsimp -implicitDefEqProofs only [go_sem, rq1, hoo])
  exact ⟨L1 _, ⟨_, rfl⟩, by rw [storeB, h1]; rfl⟩
 by_cases h2 : (s.pages.length : Int) = s.refs.length
 rotate_left
 ·have e2 : decide (¬ (s.pages.length : Int) = s.refs.length) = true := decide_eq_true h2
  repeat (first | rw [ko] | rw [kr] | simp -dsimp -implicitDefEqProofs only [go_sem, rq1, hoo, e2])
  exact ⟨L1 _, ⟨_, rfl⟩, by rw [storeB, h1, decide_eq_false h2]; rfl⟩
 have e2 : decide (¬ (s.pages.length : Int) = s.refs.length) = false := decide_eq_false (fun h => h h2)
 have hB : storeB s = (List.range s.pages.length).all (pageB s) := by rw [storeB, h1, decide_eq_true h2]; rfl
 repeat (first | rw [ko] | rw [kr] | simp -dsimp -implicitDefEqProofs only [go_sem, rq1, hoo, e2])
 refine lz_keep [1, 19, 20] (fun mm e h' => ∃ (i : Nat), g.le h' ∧ hg h' (hn g .mk) .mk = some ⟨2, [.sl (F 0) 1 (ints s.refs), .sl (F 1) 1 (rCellSS s.pages)]⟩ ∧ look e 21 .mk = .raw (.int .i64 (i : Nat)) ∧ mm + i = s.pages.length ∧ ∀ j, j < i → pageB s j = true) s.pages.length ?_ ?_
 ·exact ⟨0, L1 _, by simp -dsimp -implicitDefEqProofs only [go_sem, hoo], zsm, by omega, fun j hj => by omega⟩
 rintro mm e h' hks ⟨i, hle, row, ei, hm, hpre⟩
 simp -dsimp -implicitDefEqProofs only [go_sem, rq1] at hks
 by_cases q1 : (i : Int) < (s.pages.length : Int)
 ·have q2 : i < s.pages.length := by omega
  have q3 : i < s.refs.length := by omega
  have w1 := zwrs i (by omega)
  by_cases p1 : ((s.pages.getD i default).length : Int) > 4
  ·repeat (first | rw [ko] | rw [kr] | simp -dsimp -implicitDefEqProofs only [go_sem, rq1, hks, ei, q1, q2, p1])
   exact ⟨hle, ⟨_, rfl⟩, by rw [hB, range_bad q2 (by rw [pageB, decide_eq_false (show ¬ ((s.pages.getD i default).length : Int) ≤ 4 by omega)]; rfl)]⟩
  have p1' : ((s.pages.getD i default).length : Int) ≤ 4 := by omega
  by_cases p2 : s.refs.getD i default = 0
  ·have d2 : decide (s.refs.getD i default = 0) = true := decide_eq_true p2
   by_cases p3 : ((s.pages.getD i default).length : Int) > 0
   ·have d3 : decide (((s.pages.getD i default).length : Int) > 0) = true := decide_eq_true p3
    repeat (first | rw [ko] | rw [kr] | simp -dsimp -implicitDefEqProofs only [go_sem, rq1, hks, ei, q1, q2, q3, p1, d2, p3, row])
    exact ⟨hle, ⟨_, rfl⟩, by rw [hB, range_bad q2 (by rw [pageB, decide_eq_true p1', d2, d3]; rfl)]⟩
   ·have d3 : decide (((s.pages.getD i default).length : Int) > 0) = false := decide_eq_false p3
    repeat (first | rw [ko] | rw [kr] | simp -dsimp -implicitDefEqProofs only [go_sem, rq1, hks, ei, q1, q2, q3, p1, d2, p3, row, w1])
    refine nx_keep (mm - 1) (by omega) zsm ⟨i + 1, hle, row, zsm, by omega, fun j hj => ?_⟩
    by_cases hji : j = i
    ·subst hji; rw [pageB, decide_eq_true p1', d2, d3]; rfl
    ·exact hpre j (by omega)
  ·have d2 : decide (s.refs.getD i default = 0) = false := decide_eq_false p2
   repeat (first | rw [ko] | rw [kr] | simp -dsimp -implicitDefEqProofs only [go_sem, rq1, hks, ei, q1, q2, q3, p1, d2, row, w1])
   refine nx_keep (mm - 1) (by omega) zsm ⟨i + 1, hle, row, zsm, by omega, fun j hj => ?_⟩
   by_cases hji : j = i
   ·subst hji; rw [pageB, decide_eq_true p1', d2]; rfl
   ·exact hpre j (by omega)
 ·repeat (first | rw [ko] | rw [kr] | simp -dsimp -implicitDefEqProofs only [go_sem, hks, ei, q1])
  exact ⟨hle, ⟨_, rfl⟩, by rw [hB, range_all fun j hj => hpre j (by omega)]⟩
theorem specStore_ok {F : Nat → Adr} {s : LStore} {g : H2} (hr : s.refs.length ≤ 1048576) : PW Tryz.prog W0 64 [.st (xStore F s)] g (fun y => y = .raw (.bool (storeB s))) := by
 refine PW.scalar ?_
 refine begins [[0], [1], [], [1], [1, 3], [1, 3], [1, 3], [], []] Tryz.func64 rfl (rs := [.tmp 2]) rfl rfl ?_
 intro wf
 repeat (first | rw [ko] | rw [kr] | simp -dsimp -implicitDefEqProofs only [go_sem, hoo])
 refine pw_intro (specPool_ok hr) ?_
 rintro _ n1 hn1 rfl
 simp only [hn_push] at hn1
 have L1 : ∀ k : OB, g.le ((g.push k).up n1) := fun k => le_up (le_push (H2.le.refl _)) (by rw [hn_push]; exact hn1)
 cases h1 : poolB s.refs
 ·repeat (first | rw [ko] | rw [kr] | simp -dsimp -implicitDefEqProofs only [go_sem, rq1, hoo])
  exact ⟨L1 _, ⟨_, rfl⟩, by rw [storeB, h1]; rfl⟩
 by_cases h2 : (s.pages.length : Int) = s.refs.length
 rotate_left
 ·have e2 : decide (¬ (s.pages.length : Int) = s.refs.length) = true := decide_eq_true h2
  repeat (first | rw [ko] | rw [kr] | simp -dsimp -implicitDefEqProofs only [go_sem, rq1, hoo, e2])
  exact ⟨L1 _, ⟨_, rfl⟩, by rw [storeB, h1, decide_eq_false h2]; rfl⟩
 have e2 : decide (¬ (s.pages.length : Int) = s.refs.length) = false := decide_eq_false (fun h => h h2)
 have hB : storeB s = (List.range s.pages.length).all (pageB s) := by rw [storeB, h1, decide_eq_true h2]; rfl
 repeat (first | rw [ko] | rw [kr] | simp -dsimp -implicitDefEqProofs only [go_sem, rq1, hoo, e2])
 refine lz_keep [1] (fun mm e h' => ∃ (i : Nat), g.le h' ∧ hg h' (hn g .mk) .mk = some ⟨2, [.sl (F 0) 1 (ints s.refs), .sl (F 1) 1 (rCellSS s.pages)]⟩ ∧ look e 3 .mk = .raw (.int .i64 (i : Nat)) ∧ mm + i = s.pages.length ∧ ∀ j, j < i → pageB s j = true) s.pages.length ?_ ?_
 ·exact ⟨0, L1 _, by simp -dsimp -implicitDefEqProofs only [go_sem, hoo], zsm, by omega, fun j hj => by omega⟩
 rintro mm e h' hks ⟨i, hle, row, ei, hm, hpre⟩
 simp -dsimp -implicitDefEqProofs only [go_sem] at hks
 by_cases q1 : (i : Int) < (s.pages.length : Int)
 ·have q2 : i < s.pages.length := by omega
  have q3 : i < s.refs.length := by omega
  have w1 := zwrs i (by omega)
  by_cases p1 : ((s.pages.getD i default).length : Int) > 4
  ·repeat (first | rw [ko] | rw [kr] | simp -dsimp -implicitDefEqProofs only [go_sem, rq1, hks, ei, q1, q2, p1, row])
   exact ⟨hle, ⟨_, rfl⟩, by rw [hB, range_bad q2 (by rw [pageB, decide_eq_false (show ¬ ((s.pages.getD i default).length : Int) ≤ 4 by omega)]; rfl)]⟩
  have p1' : ((s.pages.getD i default).length : Int) ≤ 4 := by omega
  by_cases p2 : s.refs.getD i default = 0
  ·have d2 : decide (s.refs.getD i default = 0) = true := decide_eq_true p2
   by_cases p3 : ((s.pages.getD i default).length : Int) > 0
   ·have d3 : decide (((s.pages.getD i default).length : Int) > 0) = true := decide_eq_true p3
    repeat (first | rw [ko] | rw [kr] | simp -dsimp -implicitDefEqProofs only [go_sem, rq1, hks, ei, q1, q2, q3, p1, d2, p3, row])
    exact ⟨hle, ⟨_, rfl⟩, by rw [hB, range_bad q2 (by rw [pageB, decide_eq_true p1', d2, d3]; rfl)]⟩
   ·have d3 : decide (((s.pages.getD i default).length : Int) > 0) = false := decide_eq_false p3
    repeat (first | rw [ko] | rw [kr] | simp -dsimp -implicitDefEqProofs only [go_sem, rq1, hks, ei, q1, q2, q3, p1, d2, p3, row, w1])
    refine nx_keep (mm - 1) (by omega) zsm ⟨i + 1, hle, row, zsm, by omega, fun j hj => ?_⟩
    by_cases hji : j = i
    ·subst hji; rw [pageB, decide_eq_true p1', d2, d3]; rfl
    ·exact hpre j (by omega)
  ·have d2 : decide (s.refs.getD i default = 0) = false := decide_eq_false p2
   repeat (first | rw [ko] | rw [kr] | simp -dsimp -implicitDefEqProofs only [go_sem, rq1, hks, ei, q1, q2, q3, p1, d2, row, w1])
   refine nx_keep (mm - 1) (by omega) zsm ⟨i + 1, hle, row, zsm, by omega, fun j hj => ?_⟩
   by_cases hji : j = i
   ·subst hji; rw [pageB, decide_eq_true p1', d2]; rfl
   ·exact hpre j (by omega)
 ·repeat (first | rw [ko] | rw [kr] | simp -dsimp -implicitDefEqProofs only [go_sem, rq1, hks, ei, q1, row])
  exact ⟨hle, ⟨_, rfl⟩, by rw [hB, range_all fun j hj => hpre j (by omega)]⟩
end Go.Bi
end
section
set_option maxRecDepth 20000
namespace Go.Bi
open Go.Proofs
open Go.Ai (wrap_i64 wrap_u8 Heap)
variable {W0 : World} {P : Program}
set_option maxHeartbeats 4000000
def partB (p : LPart) : Bool := inI p.shift 0 4 && (inI p.values.length 1 8 && allI p.values (-15) 15)
theorem append_i3 {D : Nat → Option (List Nat)} {g : H2} {K : KT} {t u U y N : Nat} {xs : List Int} {x : X} {f : Adr} {s : Int} (he : Go.Ai.elt? P t = some (U, 1, y)) (hz : Go.Ai.zr? P U = some [.int .i64 0]) (hu : Go.Ai.cls? P u = some .sl)
  (hx : OwnI N g x xs) (hN0 : N ≤ hn g .mk) (hn0 : (xs.length + 1) * (y + 1) ≤ Go.Ai.most)
  (hk : ∀ v' g', OwnI N g' v' (xs ++ [s]) → hn g .mk ≤ hn g' .mk → (∀ g0 : H2, hn g0 .mk ≤ N → g0.le g → g0.le g') → (∀ c, c < hn g .mk → blockOf x ≠ some c → hg g' c .mk = hg g c .mk) → kz K v' g' .mk) :
  az (biz P g .append [t, u] [x, .sl f 1 [[.v (.int .i64 s)]]] .mk) K .mk := by
 refine append_own (z := 0) (m := 1) (news := [cI s]) (N := N) he hz rfl hu hx hN0 rfl rfl rfl hn0 ?_
 intro v' g' o
 refine hk v' g' ?_
 unfold OwnI
 rw [List.map_append, List.length_append]
 exact o
theorem clampA_ok {x : Int} {g : H2} : WC2 Tryz.prog W0 281 [.raw (.int .i64 x), .raw (.int .i64 127)] g (fun v g' => (∃ r, v = .raw (.int .i64 r)) ∧ g' = g) := by
 refine begins [[0, 1], [0, 1], [], [0, 1]] Tryz.func281 rfl (rs := [.tmp 4]) rfl rfl ?_
 intro wf
 have h0 : ¬ ((127 : Int) < 0) := by decide
 repeat (first | rw [ko] | rw [kr] | simp -dsimp -implicitDefEqProofs only [go_sem, rq1, h0])
 exact ⟨⟨_, rfl⟩, rfl⟩
theorem implPut_ok {F : Nat → Adr} {p : LPart} {g : H2} (hs : p.values.length ≤ 1048576) : WC2 Tryz.prog W0 275 [.st (xPart F p)] g (fun x g' => g.le g' ∧ ∃ v, x = .tp [v, .raw (.bool (partB p))] ∧ isTpX v = false) := by
 refine begins [[0], [1], [], [1], [1, 4], [1, 4, 26, 27, 28], [1, 4, 26, 27, 28], [1, 4, 6, 26, 27, 28], [1, 4, 26, 27, 28], [4]] Tryz.func275 rfl (rs := [.tmp 2, .tmp 3]) rfl rfl ?_
 intro wf
 repeat (first | rw [ko] | rw [kr] | simp -dsimp -implicitDefEqProofs only [go_sem, hoo])
 refine wz_intro in_ok ?_
 rintro _ _ ⟨rfl, rfl⟩
 cases h1 : inI p.shift 0 4
 ·repeat (first | rw [ko] | rw [kr] | simp -dsimp -implicitDefEqProofs only [go_sem, rq1, hoo])
  exact ⟨le_push (H2.le.refl _), _, by rw [partB, h1]; rfl, rfl⟩
 repeat (first | rw [ko] | rw [kr] | simp -dsimp -implicitDefEqProofs only [go_sem, rq1, hoo])
 refine wz_intro in_ok ?_
 rintro _ _ ⟨rfl, rfl⟩
 cases h2 : inI p.values.length 1 8
 ·repeat (first | rw [ko] | rw [kr] | simp -dsimp -implicitDefEqProofs only [go_sem, rq1, hoo])
  exact ⟨le_push (H2.le.refl _), _, by rw [partB, h1, h2]; rfl, rfl⟩
 repeat (first | rw [ko] | rw [kr] | simp -dsimp -implicitDefEqProofs only [go_sem, rq1, hoo])
 refine pw_intro (allIn_ok (by omega)) ?_
 rintro _ n1 hn1 rfl
 rw [hn_push] at hn1
 have L1 : ∀ k : OB, g.le ((g.push k).up n1) := fun k => le_up (le_push (H2.le.refl _)) (by rw [hn_push]; exact hn1)
 cases h3 : allI p.values (-15) 15
 ·repeat (first | rw [ko] | rw [kr] | simp -dsimp -implicitDefEqProofs only [go_sem, hoo])
  exact ⟨L1 _, _, by rw [partB, h1, h2, h3]; rfl, rfl⟩
 have hne : (hn g .mk == n1) = false := zne
 repeat (first | rw [ko] | rw [kr] | simp -dsimp -implicitDefEqProofs only [go_sem, rq1, rq3, hoo, hne])
 have hB : partB p = true := by rw [partB, h1, h2, h3]; rfl
 have hsh := inI_tt h1
 refine lz_keep [1, 26, 27] (fun m e h' => ∃ (i : Nat) (zs : List Int) (v : X), look e 28 .mk = .raw (.int .i64 (i : Nat)) ∧ look e 4 .mk = v ∧ m + i = p.values.length ∧ zs.length = i ∧ OwnI n1 h' v zs ∧ g.le h' ∧ n1 ≤ hn h' .mk ∧ hg h' (hn g .mk) .mk = some ⟨2, [.raw (.int .i64 p.shift), .sl (F 1) 1 (ints p.values)]⟩) p.values.length ?_ ?_
 ·refine ⟨0, [], _, zsm, by simp -dsimp -implicitDefEqProofs only [go_sem, rq1] <;> rfl, by omega, rfl, Own.new (by rw [hn_up]; exact Nat.le_refl _) rfl, le_push (L1 _), by simp only [hn_push, hn_up]; omega, ?_⟩
  simp -dsimp -implicitDefEqProofs only [go_sem, hne, hoo]
 rintro m e h' hks ⟨i, zs, v, e28, e4, hm, hz, ow, hle, hn0, row⟩
 simp -dsimp -implicitDefEqProofs only [go_sem, rq1] at hks
 by_cases q1 : (i : Int) < (p.values.length : Int)
 ·have q2 : i < p.values.length := by omega
  have w1 := zwrs i (by omega)
  have hsh0 := hsh.1
  repeat (first | rw [ko] | rw [kr] | simp -dsimp -implicitDefEqProofs only [go_sem, rq1, hks, e28, e4, q1, q2, row, hsh0])
  refine wz_intro clampA_ok ?_
  rintro _ _ ⟨⟨r, rfl⟩, rfl⟩
  repeat (first | rw [ko] | rw [kr] | simp -dsimp -implicitDefEqProofs only [go_sem, rq1, rq3])
  have h8 := inI_tt h2
  refine append_i3 (P := Tryz.prog) (D := fun _ => none) (N := n1) Go.Ai.ty_el27 Go.Ai.ty_zr3 Go.Ai.ty_cl27 (Own.keep ow (le_up (H2.le.refl _) (Nat.le_succ _))) (by rw [hn_up]; omega) (by have : Go.Ai.most = 1099511627776 := rfl; omega) ?_
  intro v4 g4 ow4 nn4 le4 on4
  rw [hn_up] at nn4
  have row4 : hg g4 (hn g .mk) .mk = _ := (on4 (hn g .mk) (by rw [hn_up]; omega) (fun e => by
   obtain ⟨_, h⟩ := ow
   rcases h with ⟨rfl, _⟩ | ⟨q, rfl, a1, _⟩
   ·cases e
   ·simp only [blockOf, Option.some.injEq] at e; omega)).trans row
  repeat (first | rw [ko] | rw [kr] | simp -dsimp -implicitDefEqProofs only [go_sem, rq1, w1])
  exact nx_keep (m - 1) (by omega) zsm ⟨i + 1, _, v4, zsm, zsm, by omega, by simp [hz], ow4, le4 g (by omega) (le_up hle (Nat.le_succ _)), by omega, row4⟩
 ·have c0 := ownI_cell ow
  have c1 := c0.2.2
  repeat (first | rw [ko] | rw [kr] | simp -dsimp -implicitDefEqProofs only [go_sem, rq1, hks, e28, e4, q1, c1])
  exact ⟨hle, _, by rw [hB], c1⟩
theorem implPart_ok {F : Nat → Adr} {p : LPart} {n : Int} {g : H2} (hs : p.values.length ≤ 1048576) : PW Tryz.prog W0 263 [.st (xPart F p), .raw (.int .i64 n)] g (fun y => y = .raw (.bool (partB p && decide ((p.values.length : Int) = n)))) := by
 refine PW.scalar ?_
 refine begins [[0, 1], [1, 2], [1, 2, 6]] Tryz.func263 rfl (rs := [.tmp 4]) rfl rfl ?_
 intro wf
 repeat (first | rw [ko] | rw [kr] | simp -dsimp -implicitDefEqProofs only [go_sem, hoo])
 refine wz_intro (implPut_ok (F := F) hs) ?_
 rintro _ g1 ⟨l1, v, rfl, c1⟩
 have row : hg g1 (hn g .mk) .mk = some ⟨2, [.raw (.int .i64 p.shift), .sl (F 1) 1 (ints p.values)]⟩ := (l1.2 (hn g .mk) (by rw [hn_push]; omega)).trans (by simp -dsimp -implicitDefEqProofs only [go_sem, hoo])
 have L1 : g.le g1 := H2.le.trans (le_push (H2.le.refl _)) l1
 cases h1 : partB p
 ·repeat (first | rw [ko] | rw [kr] | simp -dsimp -implicitDefEqProofs only [go_sem, rq1])
  exact ⟨L1, ⟨_, rfl⟩, rfl⟩
 ·repeat (first | rw [ko] | rw [kr] | simp -dsimp -implicitDefEqProofs only [go_sem, rq1, row])
  exact ⟨L1, ⟨_, rfl⟩, rfl⟩
end Go.Bi
end
section
set_option maxRecDepth 20000
namespace Go.Bi
open Go.Proofs
open Go.Ai (wrap_i64 wrap_u8 Heap)
variable {W0 : World} {P : Program}
set_option maxHeartbeats 4000000
theorem powA_ok {n : Nat} {g : H2} (hn0 : n ≤ 1048576) : WC2 Tryz.prog W0 284 [.raw (.int .i64 n)] g (fun v g' => (∃ r, v = .raw (.int .i64 r)) ∧ g' = g) := by
 refine begins [[0], [0], [0, 3], [0, 3, 4], [0, 3, 4], [0, 3, 4], [3]] Tryz.func284 rfl (rs := [.tmp 2]) rfl rfl ?_
 intro wf
 repeat (first | rw [ko] | rw [kr] | simp -dsimp -implicitDefEqProofs only [go_sem])
 refine lz_keep [0] (fun m e h' => ∃ (i : Nat) (x : Int), h' = g ∧ look e 4 .mk = .raw (.int .i64 (i : Nat)) ∧ look e 3 .mk = .raw (.int .i64 x) ∧ m + i = n) n ?_ ?_
 ·exact ⟨0, _, rfl, zsm, by simp -dsimp -implicitDefEqProofs only [go_sem] <;> rfl, by omega⟩
 rintro m e h' hks ⟨i, x, rfl, e4, e3, hm⟩
 simp -dsimp -implicitDefEqProofs only [go_sem] at hks
 by_cases q1 : (i : Int) < (n : Int)
 ·have w1 := zwrs i (by omega)
  repeat (first | rw [ko] | rw [kr] | simp -dsimp -implicitDefEqProofs only [go_sem, rq1, hks, e4, e3, q1, w1])
  exact nx_keep (m - 1) (by omega) zsm ⟨i + 1, _, rfl, zsm, by simp -dsimp -implicitDefEqProofs only [go_sem, rq1] <;> rfl, by omega⟩
 ·repeat (first | rw [ko] | rw [kr] | simp -dsimp -implicitDefEqProofs only [go_sem, rq1, hks, e4, e3, q1])
  exact ⟨⟨_, rfl⟩, rfl⟩
theorem powB_ok {s : Int} {g : H2} (h0 : 0 ≤ s) (h1 : s ≤ 1048576) : WC2 Tryz.prog W0 284 [.raw (.int .i64 s)] g (fun v g' => (∃ r, v = .raw (.int .i64 r)) ∧ g' = g) := by
 obtain ⟨n, rfl⟩ := Int.eq_ofNat_of_zero_le h0
 exact powA_ok (by omega)
theorem clampB_ok {x : Int} {g : H2} : WC2 Tryz.prog W0 283 [.raw (.int .i64 x), .raw (.int .i64 127)] g (fun v g' => (∃ r, v = .raw (.int .i64 r)) ∧ g' = g) := by
 refine begins [[0, 1], [0, 1], [1], [0, 1], [1], [0]] Tryz.func283 rfl (rs := [.tmp 4]) rfl rfl ?_
 intro wf
 repeat (first | rw [ko] | rw [kr] | simp -dsimp -implicitDefEqProofs only [go_sem])
 refine gz_dec (fun h1 => ?_) (fun h1 => ?_)
 ·repeat (first | rw [ko] | rw [kr] | simp -dsimp -implicitDefEqProofs only [go_sem, rq1])
  exact ⟨⟨_, rfl⟩, rfl⟩
 repeat (first | rw [ko] | rw [kr] | simp -dsimp -implicitDefEqProofs only [go_sem, rq1])
 refine gz_dec (fun h2 => ?_) (fun h2 => ?_)
 ·repeat (first | rw [ko] | rw [kr] | simp -dsimp -implicitDefEqProofs only [go_sem, rq1])
  exact ⟨⟨_, rfl⟩, rfl⟩
 ·repeat (first | rw [ko] | rw [kr] | simp -dsimp -implicitDefEqProofs only [go_sem, rq1])
  exact ⟨⟨_, rfl⟩, rfl⟩
theorem specPut_ok {F : Nat → Adr} {p : LPart} {g : H2} (hs : p.values.length ≤ 1048576) : WC2 Tryz.prog W0 277 [.st (xPart F p)] g (fun x g' => g.le g' ∧ ∃ v, x = .tp [v, .raw (.bool (partB p))] ∧ isTpX v = false) := by
 refine begins [[0], [1], [1, 4], [4], [1, 4], [1, 4, 5], [1, 4, 5], [1, 4, 5], [4]] Tryz.func277 rfl (rs := [.tmp 2, .tmp 3]) rfl rfl ?_
 intro wf
 have hne : (hn g .mk == hn g .mk + 1) = false := by simp
 repeat (first | rw [ko] | rw [kr] | simp -dsimp -implicitDefEqProofs only [go_sem, rq1, rq3, hoo, hne])
 refine wz_intro l01In_ok ?_
 rintro _ _ ⟨rfl, rfl⟩
 have L0 : ∀ k k' : OB, g.le ((g.push k).push k') := fun k k' => le_push (le_push (H2.le.refl _))
 cases h1 : inI p.shift 0 4
 ·repeat (first | rw [ko] | rw [kr] | simp -dsimp -implicitDefEqProofs only [go_sem, rq1, hoo])
  exact ⟨L0 _ _, _, by rw [partB, h1]; rfl, rfl⟩
 repeat (first | rw [ko] | rw [kr] | simp -dsimp -implicitDefEqProofs only [go_sem, rq1, hoo, hne])
 refine wz_intro l01In_ok ?_
 rintro _ _ ⟨rfl, rfl⟩
 cases h2 : inI p.values.length 1 8
 ·repeat (first | rw [ko] | rw [kr] | simp -dsimp -implicitDefEqProofs only [go_sem, rq1, hoo])
  exact ⟨L0 _ _, _, by rw [partB, h1, h2]; rfl, rfl⟩
 repeat (first | rw [ko] | rw [kr] | simp -dsimp -implicitDefEqProofs only [go_sem, rq1, hoo, hne])
 refine pw_intro (l05All_ok (by omega)) ?_
 rintro _ n1 hn1 rfl
 simp only [hn_push] at hn1
 have L1 : ∀ k k' : OB, g.le (((g.push k).push k').up n1) := fun k k' => le_up (L0 k k') (by simp only [hn_push]; exact hn1)
 cases h3 : allI p.values (-15) 15
 ·repeat (first | rw [ko] | rw [kr] | simp -dsimp -implicitDefEqProofs only [go_sem, rq1, hoo])
  exact ⟨L1 _ _, _, by rw [partB, h1, h2, h3]; rfl, rfl⟩
 repeat (first | rw [ko] | rw [kr] | simp -dsimp -implicitDefEqProofs only [go_sem, rq1, hoo])
 have hB : partB p = true := by rw [partB, h1, h2, h3]; rfl
 have hsh := inI_tt h1
 have h8 := inI_tt h2
 refine lz_keep [1] (fun m e h' => ∃ (i : Nat) (zs : List Int) (v : X), look e 5 .mk = .raw (.int .i64 (i : Nat)) ∧ look e 4 .mk = v ∧ m + i = p.values.length ∧ zs.length = i ∧ OwnI (hn g .mk + 1) h' v zs ∧ g.le h' ∧ hn g .mk + 1 ≤ hn h' .mk ∧ hg h' (hn g .mk) .mk = some ⟨2, [.raw (.int .i64 p.shift), .sl (F 1) 1 (ints p.values)]⟩) p.values.length ?_ ?_
 ·refine ⟨0, [], _, zsm, by simp -dsimp -implicitDefEqProofs only [go_sem] <;> rfl, by omega, rfl, ?_, L1 _ _, by simp only [hn_up]; omega, by simp -dsimp -implicitDefEqProofs only [go_sem, hne, hoo]⟩
  exact Own.keep (Own.new (g := g.push _) (by rw [hn_push]; exact Nat.le_refl _) rfl) (le_up (H2.le.refl _) (by simp only [hn_push]; omega))
 rintro m e h' hks ⟨i, zs, v, e5, e4, hm, hz, ow, hle, hn0, row⟩
 simp -dsimp -implicitDefEqProofs only [go_sem] at hks
 by_cases q1 : (i : Int) < (p.values.length : Int)
 ·have q2 : i < p.values.length := by omega
  have w1 := zwrs i (by omega)
  repeat (first | rw [ko] | rw [kr] | simp -dsimp -implicitDefEqProofs only [go_sem, rq1, hks, e5, e4, q1, row])
  refine dq_intro [(0, []), (1, []), (2, []), (3, []), (4, []), (5, []), (6, []), (7, []), (8, [2, 5]), (9, []), (10, []), (11, []), (12, []), (13, [])] (by kernel_rfl) ?_
  repeat (first | rw [ko] | rw [kr] | simp -dsimp -implicitDefEqProofs only [go_sem, rq1, q2, row])
  refine wz_intro (powB_ok hsh.1 (by omega)) ?_
  rintro _ _ ⟨⟨r, rfl⟩, rfl⟩
  repeat (first | rw [ko] | rw [kr] | simp -dsimp -implicitDefEqProofs only [go_sem, rq1, row])
  refine wz_intro clampB_ok ?_
  rintro _ _ ⟨⟨r2, rfl⟩, rfl⟩
  repeat (first | rw [ko] | rw [kr] | simp -dsimp -implicitDefEqProofs only [go_sem, rq1, rq3])
  refine append_i3 (P := Tryz.prog) (D := fun _ => none) (N := hn g .mk + 1) Go.Ai.ty_el27 Go.Ai.ty_zr3 Go.Ai.ty_cl27 (Own.keep ow (le_up (H2.le.refl _) (Nat.le_succ _))) (by rw [hn_up]; omega) (by have : Go.Ai.most = 1099511627776 := rfl; omega) ?_
  intro v4 g4 ow4 nn4 le4 on4
  rw [hn_up] at nn4
  have row4 : hg g4 (hn g .mk) .mk = _ := (on4 (hn g .mk) (by rw [hn_up]; omega) (fun e => by
   obtain ⟨_, h⟩ := ow
   rcases h with ⟨rfl, _⟩ | ⟨q, rfl, a1, _⟩
   ·cases e
   ·simp only [blockOf, Option.some.injEq] at e; omega)).trans row
  repeat (first | rw [ko] | rw [kr] | simp -dsimp -implicitDefEqProofs only [go_sem, rq1, w1])
  exact nx_keep (m - 1) (by omega) zsm ⟨i + 1, _, v4, zsm, zsm, by omega, by simp [hz], ow4, le4 g (by omega) (le_up hle (Nat.le_succ _)), by omega, row4⟩
 ·have c0 := ownI_cell ow
  have c1 := c0.2.2
  repeat (first | rw [ko] | rw [kr] | simp -dsimp -implicitDefEqProofs only [go_sem, rq1, hks, e5, e4, q1, row, c1])
  exact ⟨hle, _, by rw [hB], c1⟩
theorem specPart_ok {F : Nat → Adr} {p : LPart} {n : Int} {g : H2} (hs : p.values.length ≤ 1048576) : PW Tryz.prog W0 265 [.st (xPart F p), .raw (.int .i64 n)] g (fun y => y = .raw (.bool (partB p && decide ((p.values.length : Int) = n)))) := by
 refine PW.scalar ?_
 refine begins [[0, 1], [1, 2], [1, 2, 6]] Tryz.func265 rfl (rs := [.tmp 4]) rfl rfl ?_
 intro wf
 repeat (first | rw [ko] | rw [kr] | simp -dsimp -implicitDefEqProofs only [go_sem, hoo])
 refine wz_intro (specPut_ok (F := F) hs) ?_
 rintro _ g1 ⟨l1, v, rfl, c1⟩
 have row : hg g1 (hn g .mk) .mk = some ⟨2, [.raw (.int .i64 p.shift), .sl (F 1) 1 (ints p.values)]⟩ := (l1.2 (hn g .mk) (by rw [hn_push]; omega)).trans (by simp -dsimp -implicitDefEqProofs only [go_sem, hoo])
 have L1 : g.le g1 := H2.le.trans (le_push (H2.le.refl _)) l1
 cases h1 : partB p
 ·repeat (first | rw [ko] | rw [kr] | simp -dsimp -implicitDefEqProofs only [go_sem, rq1])
  exact ⟨L1, ⟨_, rfl⟩, rfl⟩
 ·repeat (first | rw [ko] | rw [kr] | simp -dsimp -implicitDefEqProofs only [go_sem, rq1, row])
  exact ⟨L1, ⟨_, rfl⟩, rfl⟩
end Go.Bi
end
section
set_option maxRecDepth 20000
namespace Go.Bi
open Go.Proofs
open Go.Ai (wrap_i64 wrap_u8 Heap)
variable {W0 : World} {P : Program}
set_option maxHeartbeats 4000000
def partN (n : Int) (p : LPart) : Bool := partB p && decide ((p.values.length : Int) = n)
def partsB (l : List LPart) (k n : Int) : Bool := decide ((l.length : Int) = k) && !(l.any fun p => !partN n p)
def layersB (l : List (List LPart)) (m : LModel) : Bool := decide ((l.length : Int) = m.layers.length) && !(l.any fun x => !partsB x m.heads (Int.tdiv m.dim m.heads))
def cellB (c : LCell) (m : LModel) : Bool := layersB c.keys m && layersB c.values m
def smallP (l : List LPart) : Prop := l.length ≤ 1048576 ∧ ∀ i, i < l.length → (l.getD i default).values.length ≤ 1048576
def smallPP (l : List (List LPart)) : Prop := l.length ≤ 1048576 ∧ ∀ i, i < l.length → smallP (l.getD i default)
theorem indexP_ok {F : FuncId} {p : LPart → Bool} {caps : List Value} {f : Adr} {ss : List LPart} {h : H2} (hn0 : ss.length ≤ 1048576)
  (hf : ∀ (i : Nat), i < ss.length → ∀ (F' : Nat → Adr) (h' : H2), h.le h' → PW Tryz.prog W0 F ([.st (xPart F' (ss.getD i default))] ++ caps.map .raw) h' (fun v => v = .raw (.bool (p (ss.getD i default))))) :
  PW Tryz.prog W0 274 [.sl f 2 (rPartS ss), .raw (.func (.func F) #[] caps.toArray)] h (fun v => ∃ k : Int, v = .raw (.int .i64 k) ∧ decide (0 ≤ k) = ss.any p) := by
 refine PW.scalar ((?_ : WC2 _ _ _ _ _ fun v g' => h.le g' ∧ ∃ k : Int, v = .raw (.int .i64 k) ∧ decide (0 ≤ k) = ss.any p).mono fun v g' ⟨h1, k, h2, h3⟩ => ⟨h1, ⟨_, h2⟩, k, h2, h3⟩)
 refine begins [[0, 1], [0, 1], [0, 1, 7, 8], [0, 1, 7, 8], [0, 1, 5, 7, 8], [5], [0, 1, 7, 8], []] Tryz.func274 rfl (rs := [.tmp 4]) rfl rfl ?_
 intro wf
 repeat (first | rw [ko] | rw [kr] | simp -dsimp -implicitDefEqProofs only [go_sem])
 refine lz_keep [0, 1, 7] (fun m e h' => h.le h' ∧ ∃ k : Nat, look e 8 .mk = .raw (.int .i64 k) ∧ m + k = ss.length ∧ ∀ j : Nat, j < k → p (ss.getD j default) = false) ss.length ?_ ?_
 ·exact ⟨H2.le.refl _, 0, zsm, by omega, fun j hj => by omega⟩
 ·rintro m e h' hks ⟨hle, k, e8, hk, hpre⟩
  simp -dsimp -implicitDefEqProofs only [go_sem, rq1] at hks
  repeat (first | rw [ko] | rw [kr] | simp -dsimp -implicitDefEqProofs only [go_sem, hks, e8])
  refine gz_dec (fun h2 => ?_) (fun h2 => ?_)
  ·have h3 : k < ss.length := by omega
   repeat (first | rw [ko] | rw [kr] | simp -dsimp -implicitDefEqProofs only [go_sem, rq1, rq2, rq3, h3])
   refine pw_intro (hf k h3 (fun j => under (under f k) j) _ hle) ?_
   rintro _ n hn1 rfl
   repeat (first | rw [ko] | rw [kr] | simp -dsimp -implicitDefEqProofs only [go_sem])
   refine gz_intro (fun h4 => ?_) (fun h4 => ?_)
   ·repeat (first | rw [ko] | rw [kr] | simp -dsimp -implicitDefEqProofs only [go_sem, rq1])
    exact ⟨le_up hle hn1, _, rfl, by rw [any_getD h3 h4]; simp⟩
   ·repeat (first | rw [ko] | rw [kr] | simp -dsimp -implicitDefEqProofs only [go_sem, rq1, wrap_succ h3 (by omega)])
    refine nx_keep (m - 1) (by omega) zsm ⟨le_up hle hn1, k + 1, zsm, by omega, fun j hj => ?_⟩
    by_cases hji : j = k
    ·subst hji; exact h4
    ·exact hpre j (by omega)
  ·repeat (first | rw [ko] | rw [kr] | simp -dsimp -implicitDefEqProofs only [go_sem])
   exact ⟨hle, _, rfl, by rw [any_none fun j hj => hpre j (by omega)]; rfl⟩
theorem containsP_ok {F : FuncId} {p : LPart → Bool} {caps : List Value} {f : Adr} {ss : List LPart} {h : H2} (hn0 : ss.length ≤ 1048576)
  (hf : ∀ (i : Nat), i < ss.length → ∀ (F' : Nat → Adr) (h' : H2), h.le h' → PW Tryz.prog W0 F ([.st (xPart F' (ss.getD i default))] ++ caps.map .raw) h' (fun v => v = .raw (.bool (p (ss.getD i default))))) :
  PW Tryz.prog W0 261 [.sl f 2 (rPartS ss), .raw (.func (.func F) #[] caps.toArray)] h (fun v => v = .raw (.bool (ss.any p))) := by
 refine PW.scalar ?_
 refine begins [[0, 1], [0, 1]] Tryz.func261 rfl (rs := [.tmp 4]) rfl rfl ?_
 intro wf
 repeat (first | rw [ko] | rw [kr] | simp -dsimp -implicitDefEqProofs only [go_sem])
 refine pw_intro (indexP_ok hn0 hf) ?_
 rintro _ n hn1 ⟨k, rfl, hk⟩
 repeat (first | rw [ko] | rw [kr] | simp -dsimp -implicitDefEqProofs only [go_sem, hk])
 exact ⟨le_up (H2.le.refl _) hn1, ⟨_, rfl⟩, rfl⟩
theorem indexQ_ok {F : FuncId} {p : List LPart → Bool} {caps : List Value} {f : Adr} {ss : List (List LPart)} {h : H2} (hn0 : ss.length ≤ 1048576)
  (hf : ∀ (i : Nat), i < ss.length → ∀ (f' : Adr) (h' : H2), h.le h' → PW Tryz.prog W0 F ([.sl f' 2 (rPartS (ss.getD i default))] ++ caps.map .raw) h' (fun v => v = .raw (.bool (p (ss.getD i default))))) :
  PW Tryz.prog W0 260 [.sl f 1 (rPartSS ss), .raw (.func (.func F) #[] caps.toArray)] h (fun v => ∃ k : Int, v = .raw (.int .i64 k) ∧ decide (0 ≤ k) = ss.any p) := by
 refine PW.scalar ((?_ : WC2 _ _ _ _ _ fun v g' => h.le g' ∧ ∃ k : Int, v = .raw (.int .i64 k) ∧ decide (0 ≤ k) = ss.any p).mono fun v g' ⟨h1, k, h2, h3⟩ => ⟨h1, ⟨_, h2⟩, k, h2, h3⟩)
 refine begins [[0, 1], [0, 1], [0, 1, 7, 8], [0, 1, 7, 8], [0, 1, 5, 7, 8], [5], [0, 1, 7, 8], []] Tryz.func260 rfl (rs := [.tmp 4]) rfl rfl ?_
 intro wf
 repeat (first | rw [ko] | rw [kr] | simp -dsimp -implicitDefEqProofs only [go_sem])
 refine lz_keep [0, 1, 7] (fun m e h' => h.le h' ∧ ∃ k : Nat, look e 8 .mk = .raw (.int .i64 k) ∧ m + k = ss.length ∧ ∀ j : Nat, j < k → p (ss.getD j default) = false) ss.length ?_ ?_
 ·exact ⟨H2.le.refl _, 0, zsm, by omega, fun j hj => by omega⟩
 ·rintro m e h' hks ⟨hle, k, e8, hk, hpre⟩
  simp -dsimp -implicitDefEqProofs only [go_sem, rq1] at hks
  repeat (first | rw [ko] | rw [kr] | simp -dsimp -implicitDefEqProofs only [go_sem, hks, e8])
  refine gz_dec (fun h2 => ?_) (fun h2 => ?_)
  ·have h3 : k < ss.length := by omega
   repeat (first | rw [ko] | rw [kr] | simp -dsimp -implicitDefEqProofs only [go_sem, rq1, h3])
   refine pw_intro (hf k h3 _ _ hle) ?_
   rintro _ n hn1 rfl
   repeat (first | rw [ko] | rw [kr] | simp -dsimp -implicitDefEqProofs only [go_sem])
   refine gz_intro (fun h4 => ?_) (fun h4 => ?_)
   ·repeat (first | rw [ko] | rw [kr] | simp -dsimp -implicitDefEqProofs only [go_sem, rq1])
    exact ⟨le_up hle hn1, _, rfl, by rw [any_getD h3 h4]; simp⟩
   ·repeat (first | rw [ko] | rw [kr] | simp -dsimp -implicitDefEqProofs only [go_sem, rq1, wrap_succ h3 (by omega)])
    refine nx_keep (m - 1) (by omega) zsm ⟨le_up hle hn1, k + 1, zsm, by omega, fun j hj => ?_⟩
    by_cases hji : j = k
    ·subst hji; exact h4
    ·exact hpre j (by omega)
  ·repeat (first | rw [ko] | rw [kr] | simp -dsimp -implicitDefEqProofs only [go_sem])
   exact ⟨hle, _, rfl, by rw [any_none fun j hj => hpre j (by omega)]; rfl⟩
theorem containsQ_ok {F : FuncId} {p : List LPart → Bool} {caps : List Value} {f : Adr} {ss : List (List LPart)} {h : H2} (hn0 : ss.length ≤ 1048576)
  (hf : ∀ (i : Nat), i < ss.length → ∀ (f' : Adr) (h' : H2), h.le h' → PW Tryz.prog W0 F ([.sl f' 2 (rPartS (ss.getD i default))] ++ caps.map .raw) h' (fun v => v = .raw (.bool (p (ss.getD i default))))) :
  PW Tryz.prog W0 242 [.sl f 1 (rPartSS ss), .raw (.func (.func F) #[] caps.toArray)] h (fun v => v = .raw (.bool (ss.any p))) := by
 refine PW.scalar ?_
 refine begins [[0, 1], [0, 1]] Tryz.func242 rfl (rs := [.tmp 4]) rfl rfl ?_
 intro wf
 repeat (first | rw [ko] | rw [kr] | simp -dsimp -implicitDefEqProofs only [go_sem])
 refine pw_intro (indexQ_ok hn0 hf) ?_
 rintro _ n hn1 ⟨k, rfl, hk⟩
 repeat (first | rw [ko] | rw [kr] | simp -dsimp -implicitDefEqProofs only [go_sem, hk])
 exact ⟨le_up (H2.le.refl _) hn1, ⟨_, rfl⟩, rfl⟩
theorem parts1_ok {F : Nat → Adr} {p : LPart} {b z : Nat} {n : Int} {h : H2} (hbn : b < hn h .mk) (hb : hg h b .mk = some ⟨z, [.raw (.int .i64 n)]⟩) (hs : p.values.length ≤ 1048576) : PW Tryz.prog W0 262 [.st (xPart F p), .raw (.pointer (some ⟨b, 0, none⟩))] h (fun y => y = .raw (.bool (!partN n p))) := by
 refine PW.scalar ?_
 refine begins [[0, 1], [1, 2]] Tryz.func262 rfl (rs := [.tmp 3]) rfl rfl ?_
 intro wf
 have hne : (b == hn h .mk) = false := zne
 repeat (first | rw [ko] | rw [kr] | simp -dsimp -implicitDefEqProofs only [go_sem, hb, hne, hoo])
 refine pw_intro (implPart_ok (F := F) hs) ?_
 rintro _ n1 hn1 rfl
 rw [hn_push] at hn1
 repeat (first | rw [ko] | rw [kr] | simp -dsimp -implicitDefEqProofs only [go_sem])
 exact ⟨le_up (le_push (H2.le.refl _)) (by rw [hn_push]; exact hn1), ⟨_, rfl⟩, rfl⟩
theorem partsOk_ok {f : Adr} {l : List LPart} {k n : Int} {g : H2} (hs : smallP l) : PW Tryz.prog W0 244 [.sl f 2 (rPartS l), .raw (.int .i64 k), .raw (.int .i64 n)] g (fun y => y = .raw (.bool (partsB l k n))) := by
 refine PW.scalar ?_
 refine begins [[0, 1, 2], [0, 1, 5]] Tryz.func244 rfl (rs := [.tmp 6]) rfl rfl ?_
 intro wf
 by_cases h1 : (l.length : Int) = k
 ·have d1 : decide ((l.length : Int) = k) = true := decide_eq_true h1
  repeat (first | rw [ko] | rw [kr] | simp -dsimp -implicitDefEqProofs only [go_sem, rq1, d1, hoo])
  refine pw_intro (containsP_ok (F := 262) (p := fun x => !partN n x) (caps := [.pointer (some ⟨hn g .mk, 0, none⟩)]) hs.1 fun i hi F' h' hle => ?_) ?_
  ·refine parts1_ok (z := 1) ?_ ((hle.2 (hn g .mk) (by rw [hn_push]; omega)).trans (by simp -dsimp -implicitDefEqProofs only [go_sem, hoo])) (hs.2 i hi)
   have := hle.1
   rw [hn_push] at this; omega
  rintro _ n1 hn1 rfl
  rw [hn_push] at hn1
  repeat (first | rw [ko] | rw [kr] | simp -dsimp -implicitDefEqProofs only [go_sem])
  exact ⟨le_up (le_push (H2.le.refl _)) (by rw [hn_push]; exact hn1), ⟨_, rfl⟩, by rw [partsB, d1]; rfl⟩
 ·have d1 : decide ((l.length : Int) = k) = false := decide_eq_false h1
  repeat (first | rw [ko] | rw [kr] | simp -dsimp -implicitDefEqProofs only [go_sem, rq1, d1, hoo])
  exact ⟨le_push (H2.le.refl _), ⟨_, rfl⟩, by rw [partsB, d1]; rfl⟩
theorem lays1_ok {f : Adr} {l : List LPart} {b : Nat} {d k : Int} {ks : List X} {h : H2} (hb : hg h b .mk = some ⟨14, .raw (.int .i64 d) :: .raw (.int .i64 k) :: ks⟩) (hd : d = 4 ∨ d = 8) (hk : k = 1 ∨ k = 2) (hs : smallP l) : PW Tryz.prog W0 243 [.sl f 2 (rPartS l), .raw (.pointer (some ⟨b, 0, none⟩))] h (fun y => y = .raw (.bool (!partsB l k (Int.tdiv d k)))) := by
 refine PW.scalar ?_
 refine begins [[0, 1], [0, 1]] Tryz.func243 rfl (rs := [.tmp 3]) rfl rfl ?_
 intro wf
 have z0 : (k == 0) = false := zne
 have w1 : IntKind.i64.wrap (Int.tdiv d k) = Int.tdiv d k := by
  rcases hd with hd | hd <;> rcases hk with hk | hk <;> rw [hd, hk] <;> decide
 repeat (first | rw [ko] | rw [kr] | simp -dsimp -implicitDefEqProofs only [go_sem])
 refine dq_intro [(0, []), (1, []), (2, []), (3, []), (4, []), (5, []), (6, []), (7, []), (8, []), (9, []), (10, [])] (by kernel_rfl) ?_
 repeat (first | rw [ko] | rw [kr] | simp -dsimp -implicitDefEqProofs only [go_sem, rq1, hb, z0, w1])
 refine pw_intro (partsOk_ok hs) ?_
 rintro _ n1 hn1 rfl
 try (rw [kq]; refine ⟨zsm, ?_⟩)
 repeat (first | rw [ko] | rw [kr] | simp -dsimp -implicitDefEqProofs only [go_sem])
 exact ⟨le_up (H2.le.refl _) hn1, ⟨_, rfl⟩, rfl⟩
theorem layersOk_ok {f : Adr} {F : Nat → Adr} {l : List (List LPart)} {m : LModel} {g : H2} (hd : m.dim = 4 ∨ m.dim = 8) (hk : m.heads = 1 ∨ m.heads = 2) (hs : smallPP l) : PW Tryz.prog W0 212 [.sl f 1 (rPartSS l), .st (xModel F m)] g (fun y => y = .raw (.bool (layersB l m))) := by
 refine PW.scalar ?_
 refine begins [[0, 1], [0, 3]] Tryz.func212 rfl (rs := [.tmp 4]) rfl rfl ?_
 intro wf
 by_cases h1 : (l.length : Int) = m.layers.length
 ·have d1 : decide ((l.length : Int) = m.layers.length) = true := decide_eq_true h1
  repeat (first | rw [ko] | rw [kr] | simp -dsimp -implicitDefEqProofs only [go_sem, rq1, d1, hoo])
  refine pw_intro (containsQ_ok (F := 243) (p := fun x => !partsB x m.heads (Int.tdiv m.dim m.heads)) (caps := [.pointer (some ⟨hn g .mk, 0, none⟩)]) hs.1 fun i hi f' h' hle => ?_) ?_
  ·exact lays1_ok ((hle.2 (hn g .mk) (by rw [hn_push]; omega)).trans (by simp -dsimp -implicitDefEqProofs only [go_sem, hoo] <;> rfl)) hd hk (hs.2 i hi)
  rintro _ n1 hn1 rfl
  rw [hn_push] at hn1
  repeat (first | rw [ko] | rw [kr] | simp -dsimp -implicitDefEqProofs only [go_sem])
  exact ⟨le_up (le_push (H2.le.refl _)) (by rw [hn_push]; exact hn1), ⟨_, rfl⟩, by rw [layersB, d1]; rfl⟩
 ·have d1 : decide ((l.length : Int) = m.layers.length) = false := decide_eq_false h1
  repeat (first | rw [ko] | rw [kr] | simp -dsimp -implicitDefEqProofs only [go_sem, d1, hoo])
  exact ⟨le_push (H2.le.refl _), ⟨_, rfl⟩, by rw [layersB, d1]; rfl⟩
theorem cellOk_ok {F F' : Nat → Adr} {c : LCell} {m : LModel} {g : H2} (hd : m.dim = 4 ∨ m.dim = 8) (hk : m.heads = 1 ∨ m.heads = 2) (hs : smallPP c.keys ∧ smallPP c.values) : PW Tryz.prog W0 151 [.st (xCell F' c), .st (xModel F m)] g (fun y => y = .raw (.bool (cellB c m))) := by
 refine PW.scalar ?_
 refine begins [[0, 1], [2, 3]] Tryz.func151 rfl (rs := [.tmp 4]) rfl rfl ?_
 intro wf
 have hne : (hn g .mk == hn g .mk + 1) = false := by simp
 repeat (first | rw [ko] | rw [kr] | simp -dsimp -implicitDefEqProofs only [go_sem, hoo, hne])
 refine pw_intro (layersOk_ok (F := F) hd hk hs.1) ?_
 rintro _ n1 hn1 rfl
 simp only [hn_push] at hn1
 cases h1 : layersB c.keys m
 ·repeat (first | rw [ko] | rw [kr] | simp -dsimp -implicitDefEqProofs only [go_sem, hoo])
  exact ⟨le_up (le_push (le_push (H2.le.refl _))) (by simp only [hn_push]; exact hn1), ⟨_, rfl⟩, by rw [cellB, h1]; rfl⟩
 repeat (first | rw [ko] | rw [kr] | simp -dsimp -implicitDefEqProofs only [go_sem, rq1, hoo, hne])
 refine pw_intro (layersOk_ok (F := F) hd hk hs.2) ?_
 rintro _ n2 hn2 rfl
 rw [hn_up] at hn2
 repeat (first | rw [ko] | rw [kr] | simp -dsimp -implicitDefEqProofs only [go_sem])
 exact ⟨le_up (le_up (le_push (le_push (H2.le.refl _))) (by simp only [hn_push]; exact hn1)) (by rw [hn_up]; exact hn2), ⟨_, rfl⟩, by rw [cellB, h1]; rfl⟩
end Go.Bi
end
section
set_option maxRecDepth 20000
namespace Go.Bi
open Go.Proofs
open Go.Ai (wrap_i64 wrap_u8 Heap)
variable {W0 : World} {P : Program}
set_option maxHeartbeats 4000000
theorem l14Parts_ok {f : Adr} {F : Nat → Adr} {l : List (List LPart)} {m : LModel} {g : H2} (hd : m.dim = 4 ∨ m.dim = 8) (hk : m.heads = 1 ∨ m.heads = 2) (hs : smallPP l) : PW Tryz.prog W0 246 [.sl f 1 (rPartSS l), .st (xModel F m)] g (fun y => y = .raw (.bool (layersB l m))) := by
 obtain ⟨s1, s2⟩ := id hs
 refine PW.scalar ?_
 refine begins [[0, 1], [0, 3], [], [0, 3], [0, 3, 5], [0, 3, 5], [0, 3, 5], [], [0, 3, 5], [0, 3, 5, 6], [0, 3, 5, 6], [0, 3, 5, 6], [], []] Tryz.func246 rfl (rs := [.tmp 4]) rfl rfl ?_
 intro wf
 have z0 : (m.heads == 0) = false := zne
 have w0 : IntKind.i64.wrap (Int.tdiv m.dim m.heads) = Int.tdiv m.dim m.heads := by
  rcases hd with hd | hd <;> rcases hk with hk | hk <;> rw [hd, hk] <;> decide
 by_cases h1 : (l.length : Int) = m.layers.length
 rotate_left
 ·have e1 : decide (¬ (l.length : Int) = m.layers.length) = true := decide_eq_true h1
  repeat (first | rw [ko] | rw [kr] | simp -dsimp -implicitDefEqProofs only [go_sem, rq1, hoo, e1])
  exact ⟨le_push (H2.le.refl _), ⟨_, rfl⟩, by rw [layersB, decide_eq_false h1]; rfl⟩
 have e1 : decide (¬ (l.length : Int) = m.layers.length) = false := decide_eq_false (fun h => h h1)
 have hB : layersB l m = !(l.any fun x => !partsB x m.heads (Int.tdiv m.dim m.heads)) := by rw [layersB, decide_eq_true h1]; rfl
 repeat (first | rw [ko] | rw [kr] | simp -dsimp -implicitDefEqProofs only [go_sem, rq1, hoo, e1])
 refine lz_keep [0, 3] (fun mm e h' => ∃ (i : Nat), g.le h' ∧ hg h' (hn g .mk) .mk = some ⟨14, [.raw (.int .i64 m.dim), .raw (.int .i64 m.heads), .raw (.int .i64 m.context), .sl (F 3) 2 (rMergeS m.merges), .sl (F 4) 1 (rIntSS m.embed), .sl (F 5) 32 (rLayerS m.layers), .sl (F 6) 1 (ints m.gainEnd), .raw (.int .i64 m.head.width), .sl (F 8) 1 (rIntSS m.head.rows), .sl (F 9) 1 (rIntSS m.head.scales), .raw (.int .i64 m.head.mul), .raw (.int .i64 m.head.shift), .sl (F 12) 1 (rIntSS m.turns.cos), .sl (F 13) 1 (rIntSS m.turns.sin)]⟩ ∧ look e 5 .mk = .raw (.int .i64 (i : Nat)) ∧ mm + i = l.length ∧ ∀ j, j < i → partsB (l.getD j default) m.heads (Int.tdiv m.dim m.heads) = true) l.length ?_ ?_
 ·exact ⟨0, le_push (H2.le.refl _), by simp -dsimp -implicitDefEqProofs only [go_sem, hoo], zsm, by omega, fun j hj => by omega⟩
 rintro mm e h' hks ⟨i, hle, row, ei, hm, hpre⟩
 simp -dsimp -implicitDefEqProofs only [go_sem, rq1] at hks
 by_cases q1 : (i : Int) < (l.length : Int)
 rotate_left
 ·repeat (first | rw [ko] | rw [kr] | simp -dsimp -implicitDefEqProofs only [go_sem, rq1, hks, ei, q1])
  exact ⟨hle, ⟨_, rfl⟩, by rw [hB, any_none fun j hj => by rw [hpre j (by omega)]; rfl]; rfl⟩
 have q2 : i < l.length := by omega
 have s3 := s2 i q2
 have w1 := zwrs i (by omega)
 have bad : partsB (l.getD i default) m.heads (Int.tdiv m.dim m.heads) = false → layersB l m = false := fun h => by
  rw [hB, any_getD (p := fun x => !partsB x m.heads (Int.tdiv m.dim m.heads)) q2 (by simp only [h]; rfl)]; rfl
 by_cases q4 : ((l.getD i default).length : Int) = m.heads
 rotate_left
 ·have e4 : decide (¬ ((l.getD i default).length : Int) = m.heads) = true := decide_eq_true q4
  repeat (first | rw [ko] | rw [kr] | simp -dsimp -implicitDefEqProofs only [go_sem, rq1, hks, ei, q1])
  refine dq_intro [(0, []), (1, []), (2, []), (3, []), (4, []), (5, []), (6, []), (7, [])] (by kernel_rfl) ?_
  repeat (first | rw [ko] | rw [kr] | simp -dsimp -implicitDefEqProofs only [go_sem, rq1, q2, row, e4])
  exact ⟨hle, ⟨_, rfl⟩, by rw [bad (by rw [partsB, decide_eq_false q4]; rfl)]⟩
 have e4 : decide (¬ ((l.getD i default).length : Int) = m.heads) = false := decide_eq_false (fun h => h q4)
 repeat (first | rw [ko] | rw [kr] | simp -dsimp -implicitDefEqProofs only [go_sem, rq1, hks, ei, q1])
 refine dq_intro [(0, []), (1, []), (2, []), (3, []), (4, []), (5, []), (6, []), (7, [])] (by kernel_rfl) ?_
 repeat (first | rw [ko] | rw [kr] | simp -dsimp -implicitDefEqProofs only [go_sem, rq1, q2, row, e4])
 refine lz_keep [0, 3, 5] (fun m2 e2 h2' => ∃ (k : Nat), g.le h2' ∧ hg h2' (hn g .mk) .mk = some ⟨14, [.raw (.int .i64 m.dim), .raw (.int .i64 m.heads), .raw (.int .i64 m.context), .sl (F 3) 2 (rMergeS m.merges), .sl (F 4) 1 (rIntSS m.embed), .sl (F 5) 32 (rLayerS m.layers), .sl (F 6) 1 (ints m.gainEnd), .raw (.int .i64 m.head.width), .sl (F 8) 1 (rIntSS m.head.rows), .sl (F 9) 1 (rIntSS m.head.scales), .raw (.int .i64 m.head.mul), .raw (.int .i64 m.head.shift), .sl (F 12) 1 (rIntSS m.turns.cos), .sl (F 13) 1 (rIntSS m.turns.sin)]⟩ ∧ look e2 6 .mk = .raw (.int .i64 (k : Nat)) ∧ m2 + k = (l.getD i default).length ∧ ∀ j, j < k → partN (Int.tdiv m.dim m.heads) ((l.getD i default).getD j default) = true) (l.getD i default).length ?_ ?_
 ·exact ⟨0, hle, row, zsm, by omega, fun j hj => by omega⟩
 rintro m2 e2 h2' hks2 ⟨k, hle2, row2, ek, hm2, hpre2⟩
 simp -dsimp -implicitDefEqProofs only [go_sem, rq1] at hks2
 by_cases q5 : (k : Int) < ((l.getD i default).length : Int)
 ·have q6 : k < (l.getD i default).length := by omega
  have w2 : IntKind.i64.wrap ((k : Int) + 1) = ((k + 1 : Nat) : Int) := by rw [wrap_i64] <;> have := s3.1 <;> omega
  repeat (first | rw [ko] | rw [kr] | simp -dsimp -implicitDefEqProofs only [go_sem, rq1, hks2, ek, q2, q5])
  refine dq_intro [(0, []), (1, []), (2, []), (3, []), (4, []), (5, []), (6, []), (7, []), (8, []), (9, []), (10, []), (11, []), (12, []), (13, [])] (by kernel_rfl) ?_
  repeat (first | rw [ko] | rw [kr] | simp -dsimp -implicitDefEqProofs only [go_sem, rq1, rq2, rq3, q2, q6, row2, z0, w0])
  refine pw_intro (specPart_ok (F := fun j => under (under (under (under f i) 0) k) j) (p := (l.getD i default).getD k default) (s3.2 k q6)) ?_
  rintro _ n3 hn3 rfl
  cases q7 : partN (Int.tdiv m.dim m.heads) ((l.getD i default).getD k default)
  ·have q8 : (partB ((l.getD i default).getD k default) && decide ((((l.getD i default).getD k default).values.length : Int) = Int.tdiv m.dim m.heads)) = false := q7
   rw [q8]
   repeat (first | rw [ko] | rw [kr] | simp -dsimp -implicitDefEqProofs only [go_sem])
   exact ⟨le_up hle2 hn3, ⟨_, rfl⟩, by rw [bad (by rw [partsB, any_getD (p := fun x => !partN (Int.tdiv m.dim m.heads) x) q6 (by simp only [q7]; rfl)]; simp)]⟩
  ·have q8 : (partB ((l.getD i default).getD k default) && decide ((((l.getD i default).getD k default).values.length : Int) = Int.tdiv m.dim m.heads)) = true := q7
   rw [q8]
   repeat (first | rw [ko] | rw [kr] | simp -dsimp -implicitDefEqProofs only [go_sem, rq1, w2])
   refine nx_keep (m2 - 1) (by omega) zsm ⟨k + 1, le_up hle2 hn3, by simp -dsimp -implicitDefEqProofs only [go_sem, row2], zsm, by omega, fun j hj => ?_⟩
   by_cases hji : j = k
   ·subst hji; exact q7
   ·exact hpre2 j (by omega)
 ·repeat (first | rw [ko] | rw [kr] | simp -dsimp -implicitDefEqProofs only [go_sem, rq1, hks2, ek, q2, q5, w1])
  refine nx_keep (mm - 1) (by omega) zsm ⟨i + 1, hle2, row2, zsm, by omega, fun j hj => ?_⟩
  by_cases hji : j = i
  ·subst hji
   rw [partsB, decide_eq_true q4, any_none fun x hx => by rw [hpre2 x (by omega)]; rfl]; rfl
  ·exact hpre j (by omega)
theorem l14Cell_ok {F F' : Nat → Adr} {c : LCell} {m : LModel} {g : H2} (hd : m.dim = 4 ∨ m.dim = 8) (hk : m.heads = 1 ∨ m.heads = 2) (hs : smallPP c.keys ∧ smallPP c.values) : PW Tryz.prog W0 217 [.st (xCell F' c), .st (xModel F m)] g (fun y => y = .raw (.bool (cellB c m))) := by
 refine PW.scalar ?_
 refine begins [[0, 1], [2, 3]] Tryz.func217 rfl (rs := [.tmp 4]) rfl rfl ?_
 intro wf
 have hne : (hn g .mk == hn g .mk + 1) = false := by simp
 repeat (first | rw [ko] | rw [kr] | simp -dsimp -implicitDefEqProofs only [go_sem, hoo, hne])
 refine pw_intro (l14Parts_ok (F := F) hd hk hs.1) ?_
 rintro _ n1 hn1 rfl
 simp only [hn_push] at hn1
 cases h1 : layersB c.keys m
 ·repeat (first | rw [ko] | rw [kr] | simp -dsimp -implicitDefEqProofs only [go_sem, hoo])
  exact ⟨le_up (le_push (le_push (H2.le.refl _))) (by simp only [hn_push]; exact hn1), ⟨_, rfl⟩, by rw [cellB, h1]; rfl⟩
 repeat (first | rw [ko] | rw [kr] | simp -dsimp -implicitDefEqProofs only [go_sem, rq1, hoo, hne])
 refine pw_intro (l14Parts_ok (F := F) hd hk hs.2) ?_
 rintro _ n2 hn2 rfl
 rw [hn_up] at hn2
 repeat (first | rw [ko] | rw [kr] | simp -dsimp -implicitDefEqProofs only [go_sem])
 exact ⟨le_up (le_up (le_push (le_push (H2.le.refl _))) (by simp only [hn_push]; exact hn1)) (by rw [hn_up]; exact hn2), ⟨_, rfl⟩, by rw [cellB, h1]; rfl⟩
end Go.Bi
end
section
set_option maxRecDepth 20000
namespace Go.Bi
open Go.Proofs
open Go.Ai (wrap_i64 wrap_u8 Heap)
variable {W0 : World} {P : Program}
set_option maxHeartbeats 4000000
def needI (n : Int) : Int := if n ≤ 0 then 0 else Int.tdiv (n - 1) 4 + 1
theorem implNeed_ok {n : Int} {g : H2} (hn0 : n ≤ 9223372036854775807) : WC2 Tryz.prog W0 61 [.raw (.int .i64 n)] g (fun v g' => v = .raw (.int .i64 (needI n)) ∧ g' = g) := by
 refine begins [[0], [0], [], [0]] Tryz.func61 rfl (rs := [.tmp 2]) rfl rfl ?_
 intro wf
 repeat (first | rw [ko] | rw [kr] | simp -dsimp -implicitDefEqProofs only [go_sem])
 refine gz_dec (fun h1 => ?_) (fun h1 => ?_)
 ·repeat (first | rw [ko] | rw [kr] | simp -dsimp -implicitDefEqProofs only [go_sem])
  exact ⟨by rw [needI, if_pos h1], rfl⟩
 ·obtain ⟨k, rfl⟩ : ∃ k : Nat, n = (k : Int) + 1 := ⟨(n - 1).toNat, by omega⟩
  have w1 : IntKind.i64.wrap ((k : Int) + 1 - 1) = (k : Int) := by rw [wrap_i64] <;> omega
  have e1 : Int.tdiv (k : Int) 4 = ((k / 4 : Nat) : Int) := rfl
  have w2 : IntKind.i64.wrap (Int.tdiv (k : Int) 4) = ((k / 4 : Nat) : Int) := by rw [e1, wrap_i64] <;> omega
  have w3 : IntKind.i64.wrap (((k / 4 : Nat) : Int) + 1) = ((k / 4 : Nat) : Int) + 1 := by rw [wrap_i64] <;> omega
  repeat (first | rw [ko] | rw [kr] | simp -dsimp -implicitDefEqProofs only [go_sem, rq7, w1, w2, w3])
  exact ⟨by rw [needI, if_neg h1, show (k : Int) + 1 - 1 = (k : Int) by omega]; rfl, rfl⟩
theorem specNeed_ok {n : Int} {g : H2} (hn0 : n ≤ 9223372036854775807) : WC2 Tryz.prog W0 161 [.raw (.int .i64 n)] g (fun v g' => v = .raw (.int .i64 (needI n)) ∧ g' = g) := by
 refine begins [[0], [0], [], [0]] Tryz.func161 rfl (rs := [.tmp 2]) rfl rfl ?_
 intro wf
 repeat (first | rw [ko] | rw [kr] | simp -dsimp -implicitDefEqProofs only [go_sem])
 refine gz_dec (fun h1 => ?_) (fun h1 => ?_)
 ·repeat (first | rw [ko] | rw [kr] | simp -dsimp -implicitDefEqProofs only [go_sem])
  exact ⟨by rw [needI, if_pos h1], rfl⟩
 ·obtain ⟨k, rfl⟩ : ∃ k : Nat, n = (k : Int) + 1 := ⟨(n - 1).toNat, by omega⟩
  have w1 : IntKind.i64.wrap ((k : Int) + 1 - 1) = (k : Int) := by rw [wrap_i64] <;> omega
  have e1 : Int.tdiv (k : Int) 4 = ((k / 4 : Nat) : Int) := rfl
  have w2 : IntKind.i64.wrap (Int.tdiv (k : Int) 4) = ((k / 4 : Nat) : Int) := by rw [e1, wrap_i64] <;> omega
  have w3 : IntKind.i64.wrap (((k / 4 : Nat) : Int) + 1) = ((k / 4 : Nat) : Int) + 1 := by rw [wrap_i64] <;> omega
  repeat (first | rw [ko] | rw [kr] | simp -dsimp -implicitDefEqProofs only [go_sem, rq7, w1, w2, w3])
  exact ⟨by rw [needI, if_neg h1, show (k : Int) + 1 - 1 = (k : Int) by omega]; rfl, rfl⟩
theorem indexC_ok {F : FuncId} {p : LCell → Bool} {caps : List Value} {f : Adr} {ss : List LCell} {h : H2} (hn0 : ss.length ≤ 1048576)
  (hf : ∀ (i : Nat), i < ss.length → ∀ (F' : Nat → Adr) (h' : H2), h.le h' → PW Tryz.prog W0 F ([.st (xCell F' (ss.getD i default))] ++ caps.map .raw) h' (fun v => v = .raw (.bool (p (ss.getD i default))))) :
  PW Tryz.prog W0 211 [.sl f 2 (rCellS ss), .raw (.func (.func F) #[] caps.toArray)] h (fun v => ∃ k : Int, v = .raw (.int .i64 k) ∧ decide (0 ≤ k) = ss.any p) := by
 refine PW.scalar ((?_ : WC2 _ _ _ _ _ fun v g' => h.le g' ∧ ∃ k : Int, v = .raw (.int .i64 k) ∧ decide (0 ≤ k) = ss.any p).mono fun v g' ⟨h1, k, h2, h3⟩ => ⟨h1, ⟨_, h2⟩, k, h2, h3⟩)
 refine begins [[0, 1], [0, 1], [0, 1, 7, 8], [0, 1, 7, 8], [0, 1, 5, 7, 8], [5], [0, 1, 7, 8], []] Tryz.func211 rfl (rs := [.tmp 4]) rfl rfl ?_
 intro wf
 repeat (first | rw [ko] | rw [kr] | simp -dsimp -implicitDefEqProofs only [go_sem])
 refine lz_keep [0, 1, 7] (fun m e h' => h.le h' ∧ ∃ k : Nat, look e 8 .mk = .raw (.int .i64 k) ∧ m + k = ss.length ∧ ∀ j : Nat, j < k → p (ss.getD j default) = false) ss.length ?_ ?_
 ·exact ⟨H2.le.refl _, 0, zsm, by omega, fun j hj => by omega⟩
 ·rintro m e h' hks ⟨hle, k, e8, hk, hpre⟩
  simp -dsimp -implicitDefEqProofs only [go_sem, rq1] at hks
  repeat (first | rw [ko] | rw [kr] | simp -dsimp -implicitDefEqProofs only [go_sem, hks, e8])
  refine gz_dec (fun h2 => ?_) (fun h2 => ?_)
  ·have h3 : k < ss.length := by omega
   repeat (first | rw [ko] | rw [kr] | simp -dsimp -implicitDefEqProofs only [go_sem, rq1, rq2, rq3, h3])
   refine pw_intro (hf k h3 (fun j => under (under f k) j) _ hle) ?_
   rintro _ n hn1 rfl
   repeat (first | rw [ko] | rw [kr] | simp -dsimp -implicitDefEqProofs only [go_sem])
   refine gz_intro (fun h4 => ?_) (fun h4 => ?_)
   ·repeat (first | rw [ko] | rw [kr] | simp -dsimp -implicitDefEqProofs only [go_sem, rq1])
    exact ⟨le_up hle hn1, _, rfl, by rw [any_getD h3 h4]; simp⟩
   ·repeat (first | rw [ko] | rw [kr] | simp -dsimp -implicitDefEqProofs only [go_sem, rq1, wrap_succ h3 (by omega)])
    refine nx_keep (m - 1) (by omega) zsm ⟨le_up hle hn1, k + 1, zsm, by omega, fun j hj => ?_⟩
    by_cases hji : j = k
    ·subst hji; exact h4
    ·exact hpre j (by omega)
  ·repeat (first | rw [ko] | rw [kr] | simp -dsimp -implicitDefEqProofs only [go_sem])
   exact ⟨hle, _, rfl, by rw [any_none fun j hj => hpre j (by omega)]; rfl⟩
theorem containsC_ok {F : FuncId} {p : LCell → Bool} {caps : List Value} {f : Adr} {ss : List LCell} {h : H2} (hn0 : ss.length ≤ 1048576)
  (hf : ∀ (i : Nat), i < ss.length → ∀ (F' : Nat → Adr) (h' : H2), h.le h' → PW Tryz.prog W0 F ([.st (xCell F' (ss.getD i default))] ++ caps.map .raw) h' (fun v => v = .raw (.bool (p (ss.getD i default))))) :
  PW Tryz.prog W0 148 [.sl f 2 (rCellS ss), .raw (.func (.func F) #[] caps.toArray)] h (fun v => v = .raw (.bool (ss.any p))) := by
 refine PW.scalar ?_
 refine begins [[0, 1], [0, 1]] Tryz.func148 rfl (rs := [.tmp 4]) rfl rfl ?_
 intro wf
 repeat (first | rw [ko] | rw [kr] | simp -dsimp -implicitDefEqProofs only [go_sem])
 refine pw_intro (indexC_ok hn0 hf) ?_
 rintro _ n hn1 ⟨k, rfl, hk⟩
 repeat (first | rw [ko] | rw [kr] | simp -dsimp -implicitDefEqProofs only [go_sem, hk])
 exact ⟨le_up (H2.le.refl _) hn1, ⟨_, rfl⟩, rfl⟩
end Go.Bi
end
section
set_option maxRecDepth 20000
namespace Go.Bi
open Go.Proofs
open Go.Ai (wrap_i64 wrap_u8 Heap)
variable {W0 : World} {P : Program}
set_option maxHeartbeats 4000000
def smallC (l : List LCell) : Prop := l.length ≤ 1048576 ∧ ∀ i, i < l.length → smallPP (l.getD i default).keys ∧ smallPP (l.getD i default).values
theorem l18Cells_ok {f : Adr} {F : Nat → Adr} {l : List LCell} {m : LModel} {g : H2} (hd : m.dim = 4 ∨ m.dim = 8) (hk : m.heads = 1 ∨ m.heads = 2) (hs : smallC l) : PW Tryz.prog W0 162 [.st (xModel F m), .sl f 2 (rCellS l)] g (fun y => y = .raw (.bool (!(l.any fun c => !cellB c m)))) := by
 obtain ⟨s1, s2⟩ := id hs
 refine PW.scalar ?_
 refine begins [[0, 1], [1, 2], [1, 2, 5], [1, 2, 5], [1, 2, 5], [], []] Tryz.func162 rfl (rs := [.tmp 4]) rfl rfl ?_
 intro wf
 repeat (first | rw [ko] | rw [kr] | simp -dsimp -implicitDefEqProofs only [go_sem, hoo])
 refine lz_keep [1, 2] (fun mm e h' => ∃ (i : Nat), g.le h' ∧ hg h' (hn g .mk) .mk = some ⟨14, [.raw (.int .i64 m.dim), .raw (.int .i64 m.heads), .raw (.int .i64 m.context), .sl (F 3) 2 (rMergeS m.merges), .sl (F 4) 1 (rIntSS m.embed), .sl (F 5) 32 (rLayerS m.layers), .sl (F 6) 1 (ints m.gainEnd), .raw (.int .i64 m.head.width), .sl (F 8) 1 (rIntSS m.head.rows), .sl (F 9) 1 (rIntSS m.head.scales), .raw (.int .i64 m.head.mul), .raw (.int .i64 m.head.shift), .sl (F 12) 1 (rIntSS m.turns.cos), .sl (F 13) 1 (rIntSS m.turns.sin)]⟩ ∧ look e 5 .mk = .raw (.int .i64 (i : Nat)) ∧ mm + i = l.length ∧ ∀ j, j < i → cellB (l.getD j default) m = true) l.length ?_ ?_
 ·exact ⟨0, le_push (H2.le.refl _), by simp -dsimp -implicitDefEqProofs only [go_sem, hoo], zsm, by omega, fun j hj => by omega⟩
 rintro mm e h' hks ⟨i, hle, row, ei, hm, hpre⟩
 simp -dsimp -implicitDefEqProofs only [go_sem] at hks
 by_cases q1 : (i : Int) < (l.length : Int)
 ·have q2 : i < l.length := by omega
  have w1 := zwrs i (by omega)
  repeat (first | rw [ko] | rw [kr] | simp -dsimp -implicitDefEqProofs only [go_sem, rq1, hks, ei, q1])
  refine dq_intro [(0, []), (1, []), (2, []), (3, []), (4, []), (5, []), (6, [])] (by kernel_rfl) ?_
  repeat (first | rw [ko] | rw [kr] | simp -dsimp -implicitDefEqProofs only [go_sem, rq1, rq2, rq3, q2, row])
  refine pw_intro (l14Cell_ok (F := F) (F' := fun j => under (under f i) j) (c := l.getD i default) hd hk (s2 i q2)) ?_
  rintro _ n3 hn3 rfl
  cases q5 : cellB (l.getD i default) m
  ·repeat (first | rw [ko] | rw [kr] | simp -dsimp -implicitDefEqProofs only [go_sem])
   exact ⟨le_up hle hn3, ⟨_, rfl⟩, by rw [any_getD (p := fun c => !cellB c m) q2 (by simp only [q5]; rfl)]; rfl⟩
  ·repeat (first | rw [ko] | rw [kr] | simp -dsimp -implicitDefEqProofs only [go_sem, rq1, w1])
   refine nx_keep (mm - 1) (by omega) zsm ⟨i + 1, le_up hle hn3, by simp -dsimp -implicitDefEqProofs only [go_sem, row], zsm, by omega, fun j hj => ?_⟩
   by_cases hji : j = i
   ·subst hji; exact q5
   ·exact hpre j (by omega)
 ·repeat (first | rw [ko] | rw [kr] | simp -dsimp -implicitDefEqProofs only [go_sem, rq1, hks, ei, q1])
  exact ⟨hle, ⟨_, rfl⟩, by rw [any_none fun j hj => by rw [hpre j (by omega)]; rfl]; rfl⟩
end Go.Bi
end
section
set_option maxRecDepth 20000
namespace Go.Bi
open Go.Proofs
open Go.Ai (wrap_i64 wrap_u8 Heap)
variable {W0 : World} {P : Program}
set_option maxHeartbeats 2000000
theorem indexZ_ok {f : Adr} {l : List Int} {x : Int} {g : H2} (hl : l.length ≤ 1048576) : WC2 Tryz.prog W0 241 [.sl f 1 (ints l), .raw (.int .i64 x)] g (fun v g' => (∃ k : Int, v = .raw (.int .i64 k) ∧ (0 ≤ k ↔ x ∈ l)) ∧ g' = g) := by
 refine begins [[0, 1], [0, 1], [0, 1, 7, 8], [0, 1, 7, 8], [0, 1, 5, 7, 8], [5], [0, 1, 7, 8], []] Tryz.func241 rfl (rs := [.tmp 4]) rfl rfl ?_
 intro wf
 repeat (first | rw [ko] | rw [kr] | simp -dsimp -implicitDefEqProofs only [go_sem])
 refine lz_keep [0, 1, 7] (fun s e h' => ∃ i : Nat, h' = g ∧ look e 8 .mk = .raw (.int .i64 (i : Nat)) ∧ s + i = l.length ∧ ∀ j, j < i → l.getD j default ≠ x) l.length ?_ ?_
 ·exact ⟨0, rfl, zsm, by omega, fun j hj => by omega⟩
 rintro s e h' hks ⟨i, rfl, e8, hsi, hpre⟩
 simp -dsimp -implicitDefEqProofs only [go_sem, rq1] at hks
 by_cases h1 : (i : Int) < (l.length : Int)
 ·have hi : i < l.length := by omega
  by_cases hm : x = l.getD i default
  ·have d1 : decide (x = l.getD i default) = true := decide_eq_true hm
   repeat (first | rw [ko] | rw [kr] | simp -dsimp -implicitDefEqProofs only [go_sem, rq1, hks, e8, h1, hi, d1])
   exact ⟨⟨_, rfl, ⟨fun _ => by rw [hm]; exact getD_memZ hi, fun _ => by omega⟩⟩, rfl⟩
  ·have d1 : decide (x = l.getD i default) = false := decide_eq_false hm
   repeat (first | rw [ko] | rw [kr] | simp -dsimp -implicitDefEqProofs only [go_sem, rq1, hks, e8, h1, hi, d1, wrap_succ hi (by omega)])
   refine nx_keep (s - 1) (by omega) zsm ⟨i + 1, rfl, zsm, by omega, fun j hj => ?_⟩
   by_cases hji : j = i
   ·subst hji; exact fun e => hm e.symm
   ·exact hpre j (by omega)
 ·repeat (first | rw [ko] | rw [kr] | simp -dsimp -implicitDefEqProofs only [go_sem, hks, e8, h1])
  refine ⟨⟨_, rfl, ⟨fun h => absurd h (by decide), fun hm => ?_⟩⟩, rfl⟩
  obtain ⟨j, hj, e⟩ := List.getElem_of_mem hm
  refine absurd ?_ (hpre j (by omega))
  rw [List.getD_eq_getElem?_getD, List.getElem?_eq_getElem hj]; exact e
theorem containsZ_ok {f : Adr} {l : List Int} {x : Int} {g : H2} (hl : l.length ≤ 1048576) : WC2 Tryz.prog W0 209 [.sl f 1 (ints l), .raw (.int .i64 x)] g (fun v g' => v = .raw (.bool (decide (x ∈ l))) ∧ g' = g) := by
 refine begins [[0, 1], [0, 1]] Tryz.func209 rfl (rs := [.tmp 4]) rfl rfl ?_
 intro wf
 repeat (first | rw [ko] | rw [kr] | simp -dsimp -implicitDefEqProofs only [go_sem])
 refine wz_intro (indexZ_ok hl) ?_
 rintro _ _ ⟨⟨k, rfl, hk⟩, rfl⟩
 have hd : decide (0 ≤ k) = decide (x ∈ l) := decide_eq_decide.2 hk
 repeat (first | rw [ko] | rw [kr] | simp -dsimp -implicitDefEqProofs only [go_sem, hd])
 exact ⟨rfl, rfl⟩
theorem equalZ_ok {f f' : Adr} {l l' : List Int} {g : H2} (hl : l.length ≤ 1048576) : WC2 Tryz.prog W0 56 [.sl f 1 (ints l), .sl f' 1 (ints l')] g (fun v g' => v = .raw (.bool (decide (l = l'))) ∧ g' = g) := by
 refine begins [[0, 1], [0, 1], [], [0, 1], [0, 1, 12, 13], [0, 1, 12, 13], [0, 1, 5, 12, 13], [], [0, 1, 12, 13], []] Tryz.func56 rfl (rs := [.tmp 4]) rfl rfl ?_
 intro wf
 by_cases h1 : (l.length : Int) = l'.length
 rotate_left
 ·have e1 : decide (¬ (l.length : Int) = l'.length) = true := decide_eq_true h1
  repeat (first | rw [ko] | rw [kr] | simp -dsimp -implicitDefEqProofs only [go_sem, rq1, e1])
  exact ⟨by rw [decide_eq_false fun h => h1 (by rw [h])], rfl⟩
 have e1 : decide (¬ (l.length : Int) = l'.length) = false := decide_eq_false (fun h => h h1)
 repeat (first | rw [ko] | rw [kr] | simp -dsimp -implicitDefEqProofs only [go_sem, rq1, e1])
 refine lz_keep [0, 1, 12] (fun s e h' => ∃ i : Nat, h' = g ∧ look e 13 .mk = .raw (.int .i64 (i : Nat)) ∧ s + i = l.length ∧ ∀ j, j < i → l.getD j default = l'.getD j default) l.length ?_ ?_
 ·exact ⟨0, rfl, zsm, by omega, fun j hj => by omega⟩
 rintro s e h' hks ⟨i, rfl, e8, hsi, hpre⟩
 simp -dsimp -implicitDefEqProofs only [go_sem, rq1] at hks
 by_cases h2 : (i : Int) < (l.length : Int)
 ·have hi : i < l.length := by omega
  have hi' : i < l'.length := by omega
  by_cases hm : l.getD i default = l'.getD i default
  ·have d1 : decide (¬ l.getD i default = l'.getD i default) = false := decide_eq_false (fun h => h hm)
   repeat (first | rw [ko] | rw [kr] | simp -dsimp -implicitDefEqProofs only [go_sem, rq1, hks, e8, h2])
   refine dq_intro [(0, []), (1, []), (2, []), (3, []), (4, []), (5, []), (6, []), (7, []), (8, [])] (by kernel_rfl) ?_
   repeat (first | rw [ko] | rw [kr] | simp -dsimp -implicitDefEqProofs only [go_sem, rq1, hi, hi', d1, wrap_succ hi (by omega)])
   refine nx_keep (s - 1) (by omega) zsm ⟨i + 1, rfl, zsm, by omega, fun j hj => ?_⟩
   by_cases hji : j = i
   ·subst hji; exact hm
   ·exact hpre j (by omega)
  ·have d1 : decide (¬ l.getD i default = l'.getD i default) = true := decide_eq_true hm
   repeat (first | rw [ko] | rw [kr] | simp -dsimp -implicitDefEqProofs only [go_sem, rq1, hks, e8, h2])
   refine dq_intro [(0, []), (1, []), (2, []), (3, []), (4, []), (5, []), (6, []), (7, []), (8, [])] (by kernel_rfl) ?_
   repeat (first | rw [ko] | rw [kr] | simp -dsimp -implicitDefEqProofs only [go_sem, rq1, hi, hi', d1])
   exact ⟨by rw [decide_eq_false fun h => hm (by rw [h])], rfl⟩
 ·repeat (first | rw [ko] | rw [kr] | simp -dsimp -implicitDefEqProofs only [go_sem, hks, e8, h2])
  refine ⟨?_, rfl⟩
  rw [decide_eq_true]
  refine List.ext_getElem (by omega) fun j a b => ?_
  have := hpre j (by omega)
  rw [List.getD_eq_getElem?_getD, List.getD_eq_getElem?_getD, List.getElem?_eq_getElem a, List.getElem?_eq_getElem b] at this
  exact this
end Go.Bi
end
section
set_option maxRecDepth 20000
namespace Go.Bi
open Go.Proofs
open Go.Ai (wrap_i64 wrap_u8 Heap)
variable {W0 : World} {P : Program}
set_option maxHeartbeats 4000000
def lastI (c : Int) (i : Nat) : Int := if c - (i : Int) * 4 < 4 then c - (i : Int) * 4 else 4
theorem lastCells_ok {F : Nat → Adr} {t : LTable} {i : Nat} {g : H2} (hc : -1000000 ≤ t.count ∧ t.count ≤ 1000000) (hi : i ≤ 2000000) : PW Tryz.prog W0 210 [.st (xTable F t), .raw (.int .i64 (i : Nat))] g (fun y => y = .raw (.int .i64 (lastI t.count i))) := by
 refine PW.scalar ?_
 refine begins [[0, 1], [1, 2]] Tryz.func210 rfl (rs := [.tmp 4]) rfl rfl ?_
 intro wf
 have w1 : IntKind.i64.wrap ((i : Int) * 4) = (i : Int) * 4 := by rw [wrap_i64] <;> omega
 have w2 : IntKind.i64.wrap (t.count - (i : Int) * 4) = t.count - (i : Int) * 4 := by rw [wrap_i64] <;> omega
 have w3 : Go.Ai.mnI 4 (t.count - (i : Int) * 4) = lastI t.count i := by unfold Go.Ai.mnI lastI; rfl
 repeat (first | rw [ko] | rw [kr] | simp -dsimp -implicitDefEqProofs only [go_sem, rq1, hoo, w1, w2, w3])
 exact ⟨le_push (H2.le.refl _), ⟨_, rfl⟩, rfl⟩
end Go.Bi
end
section
set_option maxRecDepth 20000
namespace Go.Bi
open Go.Proofs
open Go.Ai (wrap_i64 wrap_u8 Heap)
variable {W0 : World} {P : Program}
set_option maxHeartbeats 4000000
def pgB (s : LStore) (t : LTable) (i : Nat) : Bool := inI (t.pages.getD i default) 0 ((s.refs.length : Int) - 1) && (!decide (s.refs.getD (t.pages.getD i default).toNat default = 0) && (!decide (t.pages.getD i default ∈ t.pages.take i) && !decide (((s.pages.getD (t.pages.getD i default).toNat default).length : Int) < lastI t.count i)))
def tableB (s : LStore) (t : LTable) : Bool := !decide (t.count < 0) && (!decide (t.count > 64) && (decide ((t.pages.length : Int) = needI t.count) && (List.range t.pages.length).all (pgB s t)))
theorem implTable_ok {F F' : Nat → Adr} {s : LStore} {t : LTable} {g : H2} (hl : s.refs.length ≤ 1048576) (hp : s.pages.length = s.refs.length) (ht : t.pages.length ≤ 1048576) : PW Tryz.prog W0 147 [.st (xStore F s), .st (xTable F' t)] g (fun y => y = .raw (.bool (tableB s t))) := by
 refine PW.scalar ?_
 refine begins [[0, 1], [2, 3], [], [2, 3], [2, 3, 25, 26, 27], [2, 3, 25, 26, 27], [2, 3, 5, 6, 25, 26, 27], [], [2, 3, 25, 26, 27], []] Tryz.func147 rfl (rs := [.tmp 4]) rfl rfl ?_
 intro wf
 have hne : (hn g .mk == hn g .mk + 1) = false := by simp
 have L0 : ∀ k k' : OB, g.le ((g.push k).push k') := fun k k' => le_push (le_push (H2.le.refl _))
 repeat (first | rw [ko] | rw [kr] | simp -dsimp -implicitDefEqProofs only [go_sem, hoo])
 refine dq_intro [(0, []), (1, []), (2, []), (3, []), (4, []), (5, []), (6, []), (7, []), (8, []), (9, []), (10, []), (11, []), (12, []), (13, []), (14, [10]), (15, []), (16, [])] (by kernel_rfl) ?_
 by_cases h1 : t.count < 0
 ·repeat (first | rw [ko] | rw [kr] | simp -dsimp -implicitDefEqProofs only [go_sem, rq1, hoo, h1])
  exact ⟨L0 _ _, ⟨_, rfl⟩, by rw [tableB, decide_eq_true h1]; rfl⟩
 by_cases h2 : t.count > 64
 ·repeat (first | rw [ko] | rw [kr] | simp -dsimp -implicitDefEqProofs only [go_sem, rq1, hoo, h1, h2])
  exact ⟨L0 _ _, ⟨_, rfl⟩, by rw [tableB, decide_eq_false h1, decide_eq_true h2]; rfl⟩
 repeat (first | rw [ko] | rw [kr] | simp -dsimp -implicitDefEqProofs only [go_sem, rq1, hoo, h1, h2])
 refine wz_intro (implNeed_ok (by omega)) ?_
 rintro _ _ ⟨rfl, rfl⟩
 by_cases h3 : (t.pages.length : Int) = needI t.count
 rotate_left
 ·have e3 : decide (¬ (t.pages.length : Int) = needI t.count) = true := decide_eq_true h3
  repeat (first | rw [ko] | rw [kr] | simp -dsimp -implicitDefEqProofs only [go_sem, rq1, hoo, e3])
  exact ⟨L0 _ _, ⟨_, rfl⟩, by rw [tableB, decide_eq_false h1, decide_eq_false h2, decide_eq_false h3]; rfl⟩
 have e3 : decide (¬ (t.pages.length : Int) = needI t.count) = false := decide_eq_false (fun h => h h3)
 have hB : tableB s t = (List.range t.pages.length).all (pgB s t) := by rw [tableB, decide_eq_false h1, decide_eq_false h2, decide_eq_true h3]; rfl
 repeat (first | rw [ko] | rw [kr] | simp -dsimp -implicitDefEqProofs only [go_sem, rq1, hoo, e3])
 refine lz_keep [2, 3, 25, 26] (fun mm e h' => ∃ (i : Nat), g.le h' ∧ hg h' (hn g .mk) .mk = some ⟨2, [.sl (F 0) 1 (ints s.refs), .sl (F 1) 1 (rCellSS s.pages)]⟩ ∧ hg h' (hn g .mk + 1) .mk = some ⟨2, [.sl (F' 0) 1 (ints t.pages), .raw (.int .i64 t.count)]⟩ ∧ look e 27 .mk = .raw (.int .i64 (i : Nat)) ∧ mm + i = t.pages.length ∧ ∀ j, j < i → pgB s t j = true) t.pages.length ?_ ?_
 ·exact ⟨0, L0 _ _, by simp -dsimp -implicitDefEqProofs only [go_sem, hoo, hne], by simp -dsimp -implicitDefEqProofs only [go_sem, hoo], zsm, by omega, fun j hj => by omega⟩
 rintro mm e h' hks ⟨i, hle, r1, r2, ei, hm, hpre⟩
 simp -dsimp -implicitDefEqProofs only [go_sem, rq1] at hks
 by_cases q1 : (i : Int) < (t.pages.length : Int)
 rotate_left
 ·repeat (first | rw [ko] | rw [kr] | simp -dsimp -implicitDefEqProofs only [go_sem, hks, ei, q1])
  exact ⟨hle, ⟨_, rfl⟩, by rw [hB, range_all fun j hj => hpre j (by omega)]⟩
 have q2 : i < t.pages.length := by omega
 have w1 := zwrs i (by omega)
 have w2 : IntKind.i64.wrap ((s.refs.length : Int) - 1) = (s.refs.length : Int) - 1 := by rw [wrap_i64] <;> omega
 repeat (first | rw [ko] | rw [kr] | simp -dsimp -implicitDefEqProofs only [go_sem, rq1, hks, ei, q1, q2])
 refine dq_intro [(0, []), (1, []), (2, []), (3, []), (4, []), (5, []), (6, []), (7, []), (8, []), (9, []), (10, []), (11, []), (12, []), (13, []), (14, []), (15, []), (16, []), (17, []), (18, []), (19, []), (20, []), (21, []), (22, []), (23, []), (24, []), (25, []), (26, []), (27, []), (28, []), (29, []), (30, []), (31, []), (32, [25, 28]), (33, []), (34, [])] (by kernel_rfl) ?_
 repeat (first | rw [ko] | rw [kr] | simp -dsimp -implicitDefEqProofs only [go_sem, rq1, r1, w2])
 refine wz_intro in_ok ?_
 rintro _ _ ⟨rfl, rfl⟩
 cases h4 : inI (t.pages.getD i default) 0 ((s.refs.length : Int) - 1)
 ·repeat (first | rw [ko] | rw [kr] | simp -dsimp -implicitDefEqProofs only [go_sem, rq1])
  exact ⟨hle, ⟨_, rfl⟩, by rw [hB, range_bad q2 (by rw [pgB, h4]; rfl)]⟩
 have hr := inI_tt h4
 obtain ⟨k, hk⟩ := Int.eq_ofNat_of_zero_le hr.1
 have k1 : k < s.refs.length := by omega
 have k2 : k < s.pages.length := by omega
 have kt : (t.pages.getD i default).toNat = k := by omega
 have hpg : pgB s t i = (!decide (s.refs.getD k default = 0) && (!decide ((k : Int) ∈ t.pages.take i) && !decide (((s.pages.getD k default).length : Int) < lastI t.count i))) := by rw [pgB, h4, kt, hk]; rfl
 have b1 : (i : Int) ≤ (t.pages.length : Int) := by omega
 by_cases h5 : s.refs.getD k default = 0
 ·have e5 : decide (s.refs.getD k default = 0) = true := decide_eq_true h5
  repeat (first | rw [ko] | rw [kr] | simp -dsimp -implicitDefEqProofs only [go_sem, rq1, r1, hk, k1, e5])
  exact ⟨hle, ⟨_, rfl⟩, by rw [hB, range_bad q2 (by rw [hpg, e5]; rfl)]⟩
 have e5 : decide (s.refs.getD k default = 0) = false := decide_eq_false h5
 repeat (first | rw [ko] | rw [kr] | simp -dsimp -implicitDefEqProofs only [go_sem, rq1, r1, r2, hk, k1, e5, b1, ints_take])
 refine wz_intro (containsZ_ok (l := t.pages.take i) (by rw [List.length_take]; omega)) ?_
 rintro _ _ ⟨rfl, rfl⟩
 cases h6 : decide ((k : Int) ∈ t.pages.take i)
 rotate_left
 ·repeat (first | rw [ko] | rw [kr] | simp -dsimp -implicitDefEqProofs only [go_sem, rq1, hk])
  exact ⟨hle, ⟨_, rfl⟩, by rw [hB, range_bad q2 (by rw [hpg, e5, h6]; rfl)]⟩
 repeat (first | rw [ko] | rw [kr] | simp -dsimp -implicitDefEqProofs only [go_sem, rq1, r1, r2, hk, k2])
 refine pw_intro (lastCells_ok (F := F') (t := t) (by omega) (by omega)) ?_
 rintro _ n3 hn3 rfl
 try (rw [kq]; refine ⟨by simp -dsimp -implicitDefEqProofs only [go_sem, rq1, r1, hk, hoo], ?_⟩)
 by_cases h7 : ((s.pages.getD k default).length : Int) < lastI t.count i
 ·have e7 : decide (((s.pages.getD k default).length : Int) < lastI t.count i) = true := decide_eq_true h7
  repeat (first | rw [ko] | rw [kr] | simp -dsimp -implicitDefEqProofs only [go_sem, rq1, hk, e7])
  exact ⟨le_up hle hn3, ⟨_, rfl⟩, by rw [hB, range_bad q2 (by rw [hpg, e5, h6, e7]; rfl)]⟩
 ·have e7 : decide (((s.pages.getD k default).length : Int) < lastI t.count i) = false := decide_eq_false h7
  repeat (first | rw [ko] | rw [kr] | simp -dsimp -implicitDefEqProofs only [go_sem, rq1, hk, e7, w1])
  refine nx_keep (mm - 1) (by omega) zsm ⟨i + 1, le_up hle hn3, by simp -dsimp -implicitDefEqProofs only [go_sem, r1], by simp -dsimp -implicitDefEqProofs only [go_sem, r2], zsm, by omega, fun j hj => ?_⟩
  by_cases hji : j = i
  ·subst hji; rw [hpg, e5, h6, e7]; rfl
  ·exact hpre j (by omega)
end Go.Bi
end
