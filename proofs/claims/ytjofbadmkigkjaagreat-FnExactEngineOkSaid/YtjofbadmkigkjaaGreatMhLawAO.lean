/- Own lemmas that the theorem of this claim needs: the abstract machine and walks of functions. -/
import Derived.Test.YtjofbadmkigkjaaGreatMhLawAA
import Derived.Test.YtjofbadmkigkjaaGreatMhLawAB
import Derived.Test.YtjofbadmkigkjaaGreatMhLawAC
import Derived.Test.YtjofbadmkigkjaaGreatMhLawAD
import Derived.Test.YtjofbadmkigkjaaGreatMhLawAE
import Derived.Test.YtjofbadmkigkjaaGreatMhLawAF
import Derived.Test.YtjofbadmkigkjaaGreatMhLawAG
import Derived.Test.YtjofbadmkigkjaaGreatMhLawAH
import Derived.Test.YtjofbadmkigkjaaGreatMhLawAI
import Derived.Test.YtjofbadmkigkjaaGreatMhLawAJ
import Derived.Test.YtjofbadmkigkjaaGreatMhLawAK
import Derived.Test.YtjofbadmkigkjaaGreatMhLawAL
import Derived.Test.YtjofbadmkigkjaaGreatMhLawAM
import Derived.Test.YtjofbadmkigkjaaGreatMhLawAN
section
set_option linter.unusedSimpArgs false
set_option linter.unusedVariables false
set_option maxRecDepth 20000
namespace Go.Bi
open Go.Proofs
open Go.Ai (wrap_i64 Heap)
variable {W0 : World} {P : Program}
set_option maxHeartbeats 4000000
theorem implModel_ok {F : Nat → Adr} {m : LModel} {g : H2} (hs : smallMod m) : PW Tryz.prog W0 48 [.st (xModel F m)] g (fun y => y = .raw (.bool (modelB m))) := by
  obtain ⟨s1, s2, s3, s4, s5, s6, s7, s8⟩ := hs
  refine PW.scalar ?_
  refine start (P := Tryz.prog) [[0], [1], [], [1], [], [1], [], [1]] (by kernel_rfl) Tryz.func48 rfl (by decide) (by decide +kernel) (rs := [.tmp 2]) rfl rfl (Nat.le_of_ble_eq_true rfl) ?_
  intro wf
  repeat (first | rw [kz_o] | rw [kz_r0] | simp -dsimp -implicitDefEqProofs only [go_sem, Nat.reduceBEq, Nat.reduceAdd, Nat.reduceLeDiff, Nat.reduceMul, Int.reduceLE, Int.reduceLT, Int.reduceBEq, hoo])
  refine dq_intro [(0, []), (1, []), (2, []), (3, []), (4, []), (5, []), (6, []), (7, []), (8, []), (9, []), (10, []), (11, []), (12, []), (13, []), (14, []), (15, []), (16, []), (17, []), (18, []), (19, []), (20, []), (21, [18]), (22, []), (23, []), (24, []), (25, []), (26, []), (27, []), (28, []), (29, []), (30, [])] (by kernel_rfl) ?_
  repeat (first | rw [kz_o] | rw [kz_r0] | simp -dsimp -implicitDefEqProofs only [go_sem, Nat.reduceBEq, Nat.reduceAdd, Nat.reduceLeDiff, Nat.reduceMul, Int.reduceLE, Int.reduceLT, Int.reduceBEq, hoo])
  refine wz_intro isWidth_ok ?_
  rintro _ _ ⟨rfl, rfl⟩
  cases h1 : widthB m.dim
  · repeat (first | rw [kz_o] | rw [kz_r0] | simp -dsimp -implicitDefEqProofs only [go_sem, Nat.reduceBEq, Nat.reduceAdd, Nat.reduceLeDiff, Nat.reduceMul, Int.reduceLE, Int.reduceLT, Int.reduceBEq, hoo])
    exact ⟨le_push (H2.le.refl _), ⟨_, rfl⟩, by rw [modelB, h1]; rfl⟩
  repeat (first | rw [kz_o] | rw [kz_r0] | simp -dsimp -implicitDefEqProofs only [go_sem, Nat.reduceBEq, Nat.reduceAdd, Nat.reduceLeDiff, Nat.reduceMul, Int.reduceLE, Int.reduceLT, Int.reduceBEq, hoo])
  refine wz_intro in_ok ?_
  rintro _ _ ⟨rfl, rfl⟩
  cases h2 : inI m.heads 1 2
  · repeat (first | rw [kz_o] | rw [kz_r0] | simp -dsimp -implicitDefEqProofs only [go_sem, Nat.reduceBEq, Nat.reduceAdd, Nat.reduceLeDiff, Nat.reduceMul, Int.reduceLE, Int.reduceLT, Int.reduceBEq, hoo])
    exact ⟨le_push (H2.le.refl _), ⟨_, rfl⟩, by rw [modelB, h1, h2]; rfl⟩
  repeat (first | rw [kz_o] | rw [kz_r0] | simp -dsimp -implicitDefEqProofs only [go_sem, Nat.reduceBEq, Nat.reduceAdd, Nat.reduceLeDiff, Nat.reduceMul, Int.reduceLE, Int.reduceLT, Int.reduceBEq, hoo])
  refine pw_intro (implMergesOk_ok s1) ?_
  rintro _ n1 hn1 rfl
  first | (rw [kz_r]; refine ⟨by simp -dsimp -implicitDefEqProofs only [go_sem, Nat.reduceBEq, Nat.reduceAdd, Nat.reduceLeDiff, Nat.reduceMul, Int.reduceLE, Int.reduceLT, Int.reduceBEq, hoo], ?_⟩) | skip
  cases h3 : mergesB m.merges
  · repeat (first | rw [kz_o] | rw [kz_r0] | simp -dsimp -implicitDefEqProofs only [go_sem, Nat.reduceBEq, Nat.reduceAdd, Nat.reduceLeDiff, Nat.reduceMul, Int.reduceLE, Int.reduceLT, Int.reduceBEq, hoo])
    exact ⟨by repeat (first | exact H2.le.refl _ | apply le_push | refine le_up ?_ (by first | assumption | (simp only [hn_up, hn_push] at *; omega))), ⟨_, rfl⟩, by rw [modelB, h1, h2, h3]; rfl⟩
  repeat (first | rw [kz_o] | rw [kz_r0] | simp -dsimp -implicitDefEqProofs only [go_sem, Nat.reduceBEq, Nat.reduceAdd, Nat.reduceLeDiff, Nat.reduceMul, Int.reduceLE, Int.reduceLT, Int.reduceBEq, hoo])
  refine pw_intro (voc1_ok (F := F) (m := m) s1) ?_
  rintro _ n2 hn2 rfl
  first | (rw [kz_r]; refine ⟨by simp -dsimp -implicitDefEqProofs only [go_sem, Nat.reduceBEq, Nat.reduceAdd, Nat.reduceLeDiff, Nat.reduceMul, Int.reduceLE, Int.reduceLT, Int.reduceBEq, hoo], ?_⟩) | skip
  by_cases h4 : (m.embed.length : Int) = vocI m
  rotate_left
  · have e4 : decide (¬ (m.embed.length : Int) = vocI m) = true := decide_eq_true h4
    repeat (first | rw [kz_o] | rw [kz_r0] | simp -dsimp -implicitDefEqProofs only [go_sem, Nat.reduceBEq, Nat.reduceAdd, Nat.reduceLeDiff, Nat.reduceMul, Int.reduceLE, Int.reduceLT, Int.reduceBEq, hoo, e4])
    exact ⟨by repeat (first | exact H2.le.refl _ | apply le_push | refine le_up ?_ (by first | assumption | (simp only [hn_up, hn_push] at *; omega))), ⟨_, rfl⟩, by rw [modelB, h1, h2, h3, decide_eq_false h4]; rfl⟩
  have e4 : decide (¬ (m.embed.length : Int) = vocI m) = false := decide_eq_false (fun h => h h4)
  repeat (first | rw [kz_o] | rw [kz_r0] | simp -dsimp -implicitDefEqProofs only [go_sem, Nat.reduceBEq, Nat.reduceAdd, Nat.reduceLeDiff, Nat.reduceMul, Int.reduceLE, Int.reduceLT, Int.reduceBEq, hoo, e4])
  refine wz_intro in_ok ?_
  rintro _ _ ⟨rfl, rfl⟩
  first | (rw [kz_r]; refine ⟨by simp -dsimp -implicitDefEqProofs only [go_sem, Nat.reduceBEq, Nat.reduceAdd, Nat.reduceLeDiff, Nat.reduceMul, Int.reduceLE, Int.reduceLT, Int.reduceBEq, hoo], ?_⟩) | skip
  cases h5 : inI m.layers.length 1 2
  · repeat (first | rw [kz_o] | rw [kz_r0] | simp -dsimp -implicitDefEqProofs only [go_sem, Nat.reduceBEq, Nat.reduceAdd, Nat.reduceLeDiff, Nat.reduceMul, Int.reduceLE, Int.reduceLT, Int.reduceBEq, hoo])
    exact ⟨by repeat (first | exact H2.le.refl _ | apply le_push | refine le_up ?_ (by first | assumption | (simp only [hn_up, hn_push] at *; omega))), ⟨_, rfl⟩, by rw [modelB, h1, h2, h3, decide_eq_true h4, h5]; rfl⟩
  repeat (first | rw [kz_o] | rw [kz_r0] | simp -dsimp -implicitDefEqProofs only [go_sem, Nat.reduceBEq, Nat.reduceAdd, Nat.reduceLeDiff, Nat.reduceMul, Int.reduceLE, Int.reduceLT, Int.reduceBEq, hoo])
  simp only [hn_up, hn_push] at hn1 hn2
  refine pw_intro (containsR_ok (F := 125) (p := fun r => !embB m.dim r) (caps := [.pointer (some ⟨hn g .mk, 0, none⟩)]) s2.1 fun i hi f' h' hle => ?_) ?_
  · exact emb1_ok ((hle.2 (hn g .mk) (by simp only [hn_up, hn_push]; omega)).trans (by simp -dsimp -implicitDefEqProofs only [go_sem, Nat.reduceBEq, Nat.reduceAdd, Nat.reduceLeDiff, Nat.reduceMul, Int.reduceLE, Int.reduceLT, Int.reduceBEq, hoo] <;> rfl)) (smallL_at s2 i)
  rintro _ n3 hn3 rfl
  simp only [hn_up, hn_push] at hn3
  cases h6 : m.embed.any fun r => !embB m.dim r
  rotate_left
  · repeat (first | rw [kz_o] | rw [kz_r0] | simp -dsimp -implicitDefEqProofs only [go_sem, Nat.reduceBEq, Nat.reduceAdd, Nat.reduceLeDiff, Nat.reduceMul, Int.reduceLE, Int.reduceLT, Int.reduceBEq, hoo])
    exact ⟨by repeat (first | exact H2.le.refl _ | apply le_push | refine le_up ?_ (by first | assumption | (simp only [hn_up, hn_push] at *; omega))), ⟨_, rfl⟩, by rw [modelB, h1, h2, h3, decide_eq_true h4, h5, h6]; rfl⟩
  repeat (first | rw [kz_o] | rw [kz_r0] | simp -dsimp -implicitDefEqProofs only [go_sem, Nat.reduceBEq, Nat.reduceAdd, Nat.reduceLeDiff, Nat.reduceMul, Int.reduceLE, Int.reduceLT, Int.reduceBEq, hoo])
  refine pw_intro (containsY_ok (F := 127) (p := fun l => !layB l m.dim) (caps := [.pointer (some ⟨hn g .mk, 0, none⟩)]) s3 fun i hi F' h' hle => ?_) ?_
  · refine lay1_ok ?_ ((hle.2 (hn g .mk) (by simp only [hn_up, hn_push]; omega)).trans (by simp -dsimp -implicitDefEqProofs only [go_sem, Nat.reduceBEq, Nat.reduceAdd, Nat.reduceLeDiff, Nat.reduceMul, Int.reduceLE, Int.reduceLT, Int.reduceBEq, hoo] <;> rfl)) (s4 i hi)
    have := hle.1
    simp only [hn_up, hn_push] at this; omega
  rintro _ n4 hn4 rfl
  simp only [hn_up, hn_push] at hn4
  cases h7 : m.layers.any fun l => !layB l m.dim
  rotate_left
  · repeat (first | rw [kz_o] | rw [kz_r0] | simp -dsimp -implicitDefEqProofs only [go_sem, Nat.reduceBEq, Nat.reduceAdd, Nat.reduceLeDiff, Nat.reduceMul, Int.reduceLE, Int.reduceLT, Int.reduceBEq, hoo])
    exact ⟨by repeat (first | exact H2.le.refl _ | apply le_push | refine le_up ?_ (by first | assumption | (simp only [hn_up, hn_push] at *; omega))), ⟨_, rfl⟩, by rw [modelB, h1, h2, h3, decide_eq_true h4, h5, h6, h7]; rfl⟩
  repeat (first | rw [kz_o] | rw [kz_r0] | simp -dsimp -implicitDefEqProofs only [go_sem, Nat.reduceBEq, Nat.reduceAdd, Nat.reduceLeDiff, Nat.reduceMul, Int.reduceLE, Int.reduceLT, Int.reduceBEq, hoo])
  refine dq_intro [(0, []), (1, []), (2, []), (3, []), (4, []), (5, []), (6, []), (7, []), (8, []), (9, []), (10, []), (11, [7, 9]), (12, []), (13, []), (14, []), (15, []), (16, []), (17, []), (18, []), (19, []), (20, []), (21, []), (22, []), (23, []), (24, []), (25, []), (26, []), (27, [])] (by kernel_rfl) ?_
  repeat (first | rw [kz_o] | rw [kz_r0] | simp -dsimp -implicitDefEqProofs only [go_sem, Nat.reduceBEq, Nat.reduceAdd, Nat.reduceLeDiff, Nat.reduceMul, Int.reduceLE, Int.reduceLT, Int.reduceBEq, hoo])
  refine pw_intro (implGain_ok s5) ?_
  rintro _ n5 hn5 rfl
  simp only [hn_up, hn_push] at hn5
  first | (rw [kz_r]; refine ⟨by simp -dsimp -implicitDefEqProofs only [go_sem, Nat.reduceBEq, Nat.reduceAdd, Nat.reduceLeDiff, Nat.reduceMul, Int.reduceLE, Int.reduceLT, Int.reduceBEq, hoo], ?_⟩) | skip
  cases h8 : gainB m.gainEnd m.dim
  · repeat (first | rw [kz_o] | rw [kz_r0] | simp -dsimp -implicitDefEqProofs only [go_sem, Nat.reduceBEq, Nat.reduceAdd, Nat.reduceLeDiff, Nat.reduceMul, Int.reduceLE, Int.reduceLT, Int.reduceBEq, hoo])
    exact ⟨by repeat (first | exact H2.le.refl _ | apply le_push | refine le_up ?_ (by first | assumption | (simp only [hn_up, hn_push] at *; omega))), ⟨_, rfl⟩, by rw [modelB, h1, h2, h3, decide_eq_true h4, h5, h6, h7, h8]; rfl⟩
  repeat (first | rw [kz_o] | rw [kz_r0] | simp -dsimp -implicitDefEqProofs only [go_sem, Nat.reduceBEq, Nat.reduceAdd, Nat.reduceLeDiff, Nat.reduceMul, Int.reduceLE, Int.reduceLT, Int.reduceBEq, hoo])
  refine pw_intro (voc1_ok (F := F) (m := m) s1) ?_
  rintro _ n6 hn6 rfl
  simp only [hn_up, hn_push] at hn6
  first | (rw [kz_r]; refine ⟨by simp -dsimp -implicitDefEqProofs only [go_sem, Nat.reduceBEq, Nat.reduceAdd, Nat.reduceLeDiff, Nat.reduceMul, Int.reduceLE, Int.reduceLT, Int.reduceBEq, hoo], ?_⟩) | skip
  repeat (first | rw [kz_o] | rw [kz_r0] | simp -dsimp -implicitDefEqProofs only [go_sem, Nat.reduceBEq, Nat.reduceAdd, Nat.reduceLeDiff, Nat.reduceMul, Int.reduceLE, Int.reduceLT, Int.reduceBEq, hoo])
  refine pw_intro (implWithin_ok (F := fun j => F (j + 7)) (m := m.head) s6) ?_
  rintro _ n7 hn7 rfl
  simp only [hn_up, hn_push] at hn7
  first | (rw [kz_r]; refine ⟨by simp -dsimp -implicitDefEqProofs only [go_sem, Nat.reduceBEq, Nat.reduceAdd, Nat.reduceLeDiff, Nat.reduceMul, Int.reduceLE, Int.reduceLT, Int.reduceBEq, hoo], ?_⟩) | skip
  cases h9 : withB m.head m.dim (vocI m)
  · repeat (first | rw [kz_o] | rw [kz_r0] | simp -dsimp -implicitDefEqProofs only [go_sem, Nat.reduceBEq, Nat.reduceAdd, Nat.reduceLeDiff, Nat.reduceMul, Int.reduceLE, Int.reduceLT, Int.reduceBEq, hoo])
    exact ⟨by repeat (first | exact H2.le.refl _ | apply le_push | refine le_up ?_ (by first | assumption | (simp only [hn_up, hn_push] at *; omega))), ⟨_, rfl⟩, by rw [modelB, h1, h2, h3, decide_eq_true h4, h5, h6, h7, h8, h9]; rfl⟩
  have hw := width_rng h1
  have hh : m.heads = 1 ∨ m.heads = 2 := by have := inI_tt h2; omega
  have z0 : (m.heads == 0) = false := by simp; omega
  have w1 : IntKind.i64.wrap (Int.tdiv m.dim m.heads) = Int.tdiv m.dim m.heads := by
    rcases hw with hw | hw <;> rcases hh with hh | hh <;> rw [hw, hh] <;> decide
  have w2 : IntKind.i64.wrap (Int.tdiv (Int.tdiv m.dim m.heads) 2) = Int.tdiv (Int.tdiv m.dim m.heads) 2 := by
    rcases hw with hw | hw <;> rcases hh with hh | hh <;> rw [hw, hh] <;> decide
  repeat (first | rw [kz_o] | rw [kz_r0] | simp -dsimp -implicitDefEqProofs only [go_sem, Nat.reduceBEq, Nat.reduceAdd, Nat.reduceLeDiff, Nat.reduceMul, Int.reduceLE, Int.reduceLT, Int.reduceBEq, hoo, z0, w1, w2])
  refine pw_intro (implTurns_ok (F := fun j => F (j + 12)) (t := m.turns) s7 s8) ?_
  rintro _ n8 hn8 rfl
  simp only [hn_up, hn_push] at hn8
  first | (rw [kz_r]; refine ⟨by simp -dsimp -implicitDefEqProofs only [go_sem, Nat.reduceBEq, Nat.reduceAdd, Nat.reduceLeDiff, Nat.reduceMul, Int.reduceLE, Int.reduceLT, Int.reduceBEq, hoo], ?_⟩) | skip
  repeat (first | rw [kz_o] | rw [kz_r0] | simp -dsimp -implicitDefEqProofs only [go_sem, Nat.reduceBEq, Nat.reduceAdd, Nat.reduceLeDiff, Nat.reduceMul, Int.reduceLE, Int.reduceLT, Int.reduceBEq, hoo])
  exact ⟨by repeat (first | exact H2.le.refl _ | apply le_push | refine le_up ?_ (by first | assumption | (simp only [hn_up, hn_push] at *; omega))), ⟨_, rfl⟩, by rw [modelB, h1, h2, h3, decide_eq_true h4, h5, h6, h7, h8, h9]; rfl⟩
end Go.Bi
end
section
set_option linter.unusedSimpArgs false
set_option linter.unusedVariables false
set_option maxRecDepth 20000
namespace Go.Bi
open Go.Proofs
open Go.Ai (wrap_i64 Heap)
variable {W0 : World} {P : Program}
set_option maxHeartbeats 4000000
theorem get_W {l : List Int} {i : Nat} (h : i < l.length) : (l.map cI)[i]? = some (.raw (.int .i64 (l.getD i default))) := by
  rw [List.getElem?_map, List.getElem?_eq_getElem h, List.getD_eq_getElem?_getD, List.getElem?_eq_getElem h]; rfl
theorem wrt_W {l : List Int} {i : Nat} {v : Int} (h : i < l.length) : wrtL (l.map cI) i [.raw (.int .i64 v)] = some ((l.set i v).map cI) := by
  rw [wrt_set (by simpa using h), List.map_set]; rfl
theorem zeros_I {n : Nat} : (Go.Ai.repL n [.int .i64 0]).map X.raw = (List.replicate n (0 : Int)).map cI := by
  rw [Go.Ai.rep_one]; simp [cI]
theorem pw_same {f : FuncId} {xs : List X} {g : H2} {Q : X → Prop} (c : WC2 P W0 f xs g fun v g' => Q v ∧ g' = g) : PW P W0 f xs g Q :=
  WC2.mono c fun y g' ⟨h1, h2⟩ => by subst h2; exact ⟨rfl, Nat.le_refl _, h1⟩
theorem equalO_ok {f : Adr} {b n : Nat} {w l : List Int} {g : H2} (hb : hg g b .mk = some ⟨1, w.map cI⟩) (hn : w.length = n) (hl : n ≤ 1048576) : PW Tryz.prog W0 56 [.raw (.slice (some ⟨b, 0, none⟩) n n), .sl f 1 (ints l)] g (fun v => v = .raw (.bool (decide (w = l)))) := by
  subst hn
  have hf : ∃ f, Lent g (.raw (.slice (some ⟨b, 0, none⟩) w.length w.length)) (.sl f 1 (ints w)) := by
    have h2 : Lent g (.raw (.slice (some ⟨b, 0, none⟩) w.length w.length)) (.sl (litA b w.length 1 (w.map cI)) 1 (chunk 1 w.length (w.map fun n => T.v (.int .i64 n)))) :=
      Fz.own (cs' := w.map cI) hb trivial (by simp) rfl (fun i hi hi' => by rw [List.getElem_map]; exact .raw) toTs_ints
    rw [chunk_ints] at h2
    exact ⟨_, h2⟩
  obtain ⟨f1, hf⟩ := hf
  exact PW.lend (.cons hf (.cons (.sl (.sl (allT_true _ _))) .nil)) (pw_same (equalZ_ok (l' := l) hl)) (fun y h => by rw [h]; exact .raw)
theorem wants_in' {n i : Nat} {rs : List LRequest} (h : ∀ j, j < i → (rs.getD j default).table.pages.length ≤ 16) (hi : i ≤ rs.length) : inB (16 * i) (wantsL n (rs.take i)) := by
  have := wants_in (n := n) (rs := rs.take i) (fun j hj => by
    rw [List.length_take] at hj
    have h2 := h j (by omega)
    rwa [List.getD_eq_getElem?_getD, List.getElem?_take_of_lt (by omega), ← List.getD_eq_getElem?_getD]) i (by rw [List.length_take]; omega)
  rwa [List.take_take, Nat.min_self] at this
theorem implEngine_ok {F : Nat → Adr} {e : LEngine} {g : H2} (hs : smallEng e) : PW Tryz.prog W0 15 [.st (xEngine F e)] g (fun y => y = .raw (.bool (engB e))) := by
  obtain ⟨s1, s2, s3, s4, s5⟩ := id hs
  refine PW.scalar ?_
  refine start (P := Tryz.prog) [[0], [1], [], [1], [1, 3], [1, 3, 30, 31, 32], [1, 3, 30, 31, 32], [1, 3, 5, 30, 31, 32], [], [1, 3, 5, 30, 31, 32], [1, 3, 30, 31, 32, 42, 43, 44], [1, 3, 30, 31, 32, 42, 43, 44], [1, 3, 7, 30, 31, 32, 42, 43, 44], [1, 3, 30, 31, 32, 42, 43, 44], [1, 3, 30, 31, 32], [1, 3]] (by kernel_rfl) Tryz.func15 rfl (by decide) (by decide +kernel) (rs := [.tmp 2]) rfl rfl (Nat.le_of_ble_eq_true rfl) ?_
  intro wf
  repeat (first | rw [kz_o] | rw [kz_r0] | simp -dsimp -implicitDefEqProofs only [go_sem, Nat.reduceBEq, Nat.reduceAdd, Nat.reduceLeDiff, Nat.reduceMul, Int.reduceLE, Int.reduceLT, Int.reduceBEq, hoo])
  refine pw_intro (implModel_ok (F := F) (m := e.model) s1) ?_
  rintro _ n1 hn1 rfl
  simp only [hn_push] at hn1
  first | (rw [kz_r]; refine ⟨by simp -dsimp -implicitDefEqProofs only [go_sem, Nat.reduceBEq, Nat.reduceAdd, Nat.reduceLeDiff, Nat.reduceMul, Int.reduceLE, Int.reduceLT, Int.reduceBEq, hoo], ?_⟩) | skip
  cases h1 : modelB e.model
  · repeat (first | rw [kz_o] | rw [kz_r0] | simp -dsimp -implicitDefEqProofs only [go_sem, Nat.reduceBEq, Nat.reduceAdd, Nat.reduceLeDiff, Nat.reduceMul, Int.reduceLE, Int.reduceLT, Int.reduceBEq, hoo])
    exact ⟨by repeat (first | exact H2.le.refl _ | assumption | apply le_push | refine le_up ?_ (by first | assumption | (simp only [hn_up, hn_push] at *; omega))), ⟨_, rfl⟩, by rw [engB, h1]; rfl⟩
  repeat (first | rw [kz_o] | rw [kz_r0] | simp -dsimp -implicitDefEqProofs only [go_sem, Nat.reduceBEq, Nat.reduceAdd, Nat.reduceLeDiff, Nat.reduceMul, Int.reduceLE, Int.reduceLT, Int.reduceBEq, hoo])
  refine pw_intro (implStore_ok (F := fun j => F (j + 14)) (s := e.store) s2) ?_
  rintro _ n2 hn2 rfl
  simp only [hn_push, hn_up] at hn2
  first | (rw [kz_r]; refine ⟨by simp -dsimp -implicitDefEqProofs only [go_sem, Nat.reduceBEq, Nat.reduceAdd, Nat.reduceLeDiff, Nat.reduceMul, Int.reduceLE, Int.reduceLT, Int.reduceBEq, hoo], ?_⟩) | skip
  cases h2 : storeB e.store
  · repeat (first | rw [kz_o] | rw [kz_r0] | simp -dsimp -implicitDefEqProofs only [go_sem, Nat.reduceBEq, Nat.reduceAdd, Nat.reduceLeDiff, Nat.reduceMul, Int.reduceLE, Int.reduceLT, Int.reduceBEq, hoo])
    exact ⟨by repeat (first | exact H2.le.refl _ | assumption | apply le_push | refine le_up ?_ (by first | assumption | (simp only [hn_up, hn_push] at *; omega))), ⟨_, rfl⟩, by rw [engB, h1, h2]; rfl⟩
  by_cases h3 : (e.requests.length : Int) > 10
  · repeat (first | rw [kz_o] | rw [kz_r0] | simp -dsimp -implicitDefEqProofs only [go_sem, Nat.reduceBEq, Nat.reduceAdd, Nat.reduceLeDiff, Nat.reduceMul, Int.reduceLE, Int.reduceLT, Int.reduceBEq, hoo, h3])
    exact ⟨by repeat (first | exact H2.le.refl _ | assumption | apply le_push | refine le_up ?_ (by first | assumption | (simp only [hn_up, hn_push] at *; omega))), ⟨_, rfl⟩, by rw [engB, h1, h2, decide_eq_false (by omega)]; rfl⟩
  obtain ⟨hpl, hrl⟩ := storeB_len h2
  have hB : engB e = (e.requests.all (reqB e) && decide (wantsL e.store.refs.length e.requests = e.store.refs)) := by rw [engB, h1, h2, decide_eq_true (by omega)]; rfl
  repeat (first | rw [kz_o] | rw [kz_r0] | simp -dsimp -implicitDefEqProofs only [go_sem, Nat.reduceBEq, Nat.reduceAdd, Nat.reduceLeDiff, Nat.reduceMul, Int.reduceLE, Int.reduceLT, Int.reduceBEq, hoo, h3])
  refine make_intro Ai.ty_el27 Ai.ty_zr3 (by decide) ⟨by omega, by simp only [Int.toNat_natCast]; have : Ai.most = 1099511627776 := rfl; omega⟩ ?_
  simp only [hn_push, hn_up, Int.toNat_natCast]
  have hne0 : (hn g .mk == n2) = false := by simp; omega
  repeat (first | rw [kz_o] | rw [kz_r0] | simp -dsimp -implicitDefEqProofs only [go_sem, Nat.reduceBEq, Nat.reduceAdd, Nat.reduceLeDiff, Nat.reduceMul, Int.reduceLE, Int.reduceLT, Int.reduceBEq, hoo, hne0])
  refine lz_keep [1, 3, 30, 31] (fun mm s h' => ∃ (i : Nat), g.le h' ∧ n2 + 1 ≤ hn h' .mk ∧ hg h' (hn g .mk) .mk = some ⟨17, [.raw (.int .i64 e.model.dim), .raw (.int .i64 e.model.heads), .raw (.int .i64 e.model.context), .sl (F 3) 2 (rMergeS e.model.merges), .sl (F 4) 1 (rIntSS e.model.embed), .sl (F 5) 32 (rLayerS e.model.layers), .sl (F 6) 1 (ints e.model.gainEnd), .raw (.int .i64 e.model.head.width), .sl (F 8) 1 (rIntSS e.model.head.rows), .sl (F 9) 1 (rIntSS e.model.head.scales), .raw (.int .i64 e.model.head.mul), .raw (.int .i64 e.model.head.shift), .sl (F 12) 1 (rIntSS e.model.turns.cos), .sl (F 13) 1 (rIntSS e.model.turns.sin), .sl (F 14) 1 (ints e.store.refs), .sl (F 15) 1 (rCellSS e.store.pages), .sl (F 16) 10 (rRequestS e.requests)]⟩ ∧ hg h' n2 .mk = some ⟨1, (wantsL e.store.refs.length (e.requests.take i)).map cI⟩ ∧ look s 32 .mk = .raw (.int .i64 (i : Nat)) ∧ mm + i = e.requests.length ∧ ∀ j, j < i → reqB e (e.requests.getD j default) = true) e.requests.length ?_ ?_
  · have hne : (hn g .mk == n2) = false := by simp; omega
    refine ⟨0, by repeat (first | exact H2.le.refl _ | assumption | apply le_push | refine le_up ?_ (by first | assumption | (simp only [hn_up, hn_push] at *; omega))), by simp only [hn_push, hn_up]; omega, by simp -dsimp -implicitDefEqProofs only [go_sem, Nat.reduceBEq, Nat.reduceAdd, Nat.reduceLeDiff, Nat.reduceMul, Int.reduceLE, Int.reduceLT, Int.reduceBEq, hoo, hne] <;> rfl, ?_, by simp -dsimp -implicitDefEqProofs only [go_sem, Nat.reduceBEq, Nat.reduceAdd, Nat.reduceLeDiff, Nat.reduceMul, Int.reduceLE, Int.reduceLT, Int.reduceBEq], by omega, fun j hj => by omega⟩
    simp -dsimp -implicitDefEqProofs only [go_sem, Nat.reduceBEq, Nat.reduceAdd, Nat.reduceLeDiff, Nat.reduceMul, Int.reduceLE, Int.reduceLT, Int.reduceBEq, hoo, zeros_I]
    rfl
  rintro mm s h' hks ⟨i, hle, hnn, ra, rw0, ei, hmm, hpre⟩
  simp -dsimp -implicitDefEqProofs only [go_sem, Nat.reduceBEq, Nat.reduceAdd, Nat.reduceLeDiff, Nat.reduceMul, Int.reduceLE, Int.reduceLT, Int.reduceBEq] at hks
  by_cases q1 : (i : Int) < (e.requests.length : Int)
  · have q2 : i < e.requests.length := by omega
    have w1 : IntKind.i64.wrap ((i : Int) + 1) = ((i + 1 : Nat) : Int) := by rw [wrap_i64] <;> omega
    have hne1 : (hn g .mk == hn h' .mk) = false := by simp; have := hle.1; omega
    repeat (first | rw [kz_o] | rw [kz_r0] | simp -dsimp -implicitDefEqProofs only [go_sem, Nat.reduceBEq, Nat.reduceAdd, Nat.reduceLeDiff, Nat.reduceMul, Int.reduceLE, Int.reduceLT, Int.reduceBEq, hks, ei, q1, q2, ra, rw0, hoo, hne1])
    refine pw_intro (implReq_ok (F := F) (F' := fun j => under (under (F 16) i) j) (r := e.requests.getD i default) h1 h2 hs (s5 i q2)) ?_
    rintro _ n3 hn3 rfl
    simp only [hn_push] at hn3
    cases h4 : reqB e (e.requests.getD i default)
    · repeat (first | rw [kz_o] | rw [kz_r0] | simp -dsimp -implicitDefEqProofs only [go_sem, Nat.reduceBEq, Nat.reduceAdd, Nat.reduceLeDiff, Nat.reduceMul, Int.reduceLE, Int.reduceLT, Int.reduceBEq, hks, ei, q1, q2, ra, rw0])
      refine ⟨le_up (le_push hle) (by rw [hn_push]; exact hn3), ⟨_, rfl⟩, ?_⟩
      rw [hB, Bool.and_eq_false_iff.2 (.inl ?_)]
      rw [List.all_eq_false]
      exact ⟨_, getD_memR q2, by rw [h4]; simp⟩
    have hwl : (wantsL e.store.refs.length (e.requests.take i)).length = e.store.refs.length := wants_len
    obtain ⟨hp16, htb⟩ := reqB_pages h4
    have hpg := (table_t htb).2.2.2
    have hne2 : (n2 == hn h' .mk) = false := by simp; omega
    repeat (first | rw [kz_o] | rw [kz_r0] | simp -dsimp -implicitDefEqProofs only [go_sem, Nat.reduceBEq, Nat.reduceAdd, Nat.reduceLeDiff, Nat.reduceMul, Int.reduceLE, Int.reduceLT, Int.reduceBEq, hks, ei, q1, q2, ra, rw0, hoo, hne1, hne2])
    refine lz_keep [1, 3, 30, 31, 32, 42, 43] (fun m2 s2 h2' => ∃ (k : Nat), g.le h2' ∧ n2 + 1 ≤ hn h2' .mk ∧ hg h2' (hn g .mk) .mk = some ⟨17, [.raw (.int .i64 e.model.dim), .raw (.int .i64 e.model.heads), .raw (.int .i64 e.model.context), .sl (F 3) 2 (rMergeS e.model.merges), .sl (F 4) 1 (rIntSS e.model.embed), .sl (F 5) 32 (rLayerS e.model.layers), .sl (F 6) 1 (ints e.model.gainEnd), .raw (.int .i64 e.model.head.width), .sl (F 8) 1 (rIntSS e.model.head.rows), .sl (F 9) 1 (rIntSS e.model.head.scales), .raw (.int .i64 e.model.head.mul), .raw (.int .i64 e.model.head.shift), .sl (F 12) 1 (rIntSS e.model.turns.cos), .sl (F 13) 1 (rIntSS e.model.turns.sin), .sl (F 14) 1 (ints e.store.refs), .sl (F 15) 1 (rCellSS e.store.pages), .sl (F 16) 10 (rRequestS e.requests)]⟩ ∧ hg h2' n2 .mk = some ⟨1, (((e.requests.getD i default).table.pages.take k).foldl bump (wantsL e.store.refs.length (e.requests.take i))).map cI⟩ ∧ look s2 44 .mk = .raw (.int .i64 (k : Nat)) ∧ m2 + k = (e.requests.getD i default).table.pages.length) (e.requests.getD i default).table.pages.length ?_ ?_
    · refine ⟨0, le_up (le_push hle) (by rw [hn_push]; exact hn3), by rw [hn_up]; omega, by simp -dsimp -implicitDefEqProofs only [go_sem, Nat.reduceBEq, Nat.reduceAdd, Nat.reduceLeDiff, Nat.reduceMul, Int.reduceLE, Int.reduceLT, Int.reduceBEq, hoo, hne1, ra] <;> rfl, by simp -dsimp -implicitDefEqProofs only [go_sem, Nat.reduceBEq, Nat.reduceAdd, Nat.reduceLeDiff, Nat.reduceMul, Int.reduceLE, Int.reduceLT, Int.reduceBEq, hoo, hne2, rw0] <;> rfl, by simp -dsimp -implicitDefEqProofs only [go_sem, Nat.reduceBEq, Nat.reduceAdd, Nat.reduceLeDiff, Nat.reduceMul, Int.reduceLE, Int.reduceLT, Int.reduceBEq], by omega⟩
    rintro m2 s2 h2' hks2 ⟨k, hle2, hnn2, rb, rv, ek, hm2⟩
    simp -dsimp -implicitDefEqProofs only [go_sem, Nat.reduceBEq, Nat.reduceAdd, Nat.reduceLeDiff, Nat.reduceMul, Int.reduceLE, Int.reduceLT, Int.reduceBEq, hks] at hks2
    have hwi : inB (16 * i) (wantsL e.store.refs.length (e.requests.take i)) := wants_in' (fun j hj => (reqB_pages (hpre j hj)).1) (by omega)
    have hwk := bumps_in (ps := (e.requests.getD i default).table.pages.take k) (B := 16 * i) (by omega) hwi
    have hvl : (((e.requests.getD i default).table.pages.take k).foldl bump (wantsL e.store.refs.length (e.requests.take i))).length = e.store.refs.length := by rw [bumps_len, hwl]
    by_cases q3 : (k : Int) < ((e.requests.getD i default).table.pages.length : Int)
    · have q4 : k < (e.requests.getD i default).table.pages.length := by omega
      have w2 : IntKind.i64.wrap ((k : Int) + 1) = ((k + 1 : Nat) : Int) := by rw [wrap_i64] <;> omega
      obtain ⟨p1, p2, p3⟩ := pgB_t (hpg k q4)
      obtain ⟨p, hp⟩ := Int.eq_ofNat_of_zero_le p1.1
      have k1 : p < e.store.refs.length := by omega
      have hsn := bumps_snoc (ps := (e.requests.getD i default).table.pages) (w := wantsL e.store.refs.length (e.requests.take i)) q4
      generalize hwdef : ((e.requests.getD i default).table.pages.take k).foldl bump (wantsL e.store.refs.length (e.requests.take i)) = w at *
      have hb := hwk p
      have hlk : (((e.requests.getD i default).table.pages.take k).length : Int) ≤ 16 := by rw [List.length_take]; omega
      have w3 : IntKind.i64.wrap (w.getD p default + 1) = w.getD p default + 1 := by rw [wrap_i64] <;> omega
      have gw := get_W (l := w) (i := p) (by omega)
      have ww := wrt_W (l := w) (i := p) (v := w.getD p default + 1) (by omega)
      have hi2 : (0 : Int) ≤ (p : Int) ∧ (p : Int) < (e.store.refs.length : Int) := by omega
      have hbump : bump w ((e.requests.getD i default).table.pages.getD k default) = w.set p (w.getD p default + 1) := by rw [hp]; rfl
      have hne3 : (hn g .mk == n2) = false := by simp; omega
      repeat (first | rw [kz_o] | rw [kz_r0] | simp -dsimp -implicitDefEqProofs only [go_sem, Nat.reduceBEq, Nat.reduceAdd, Nat.reduceLeDiff, Nat.reduceMul, Int.reduceLE, Int.reduceLT, Int.reduceBEq, hks, hks2, ek, q3, q4, rb, rv, hp, hi2, nat_nn, Int.toNat_natCast, k1, gw, ww, w3, w2, hoo])
      refine nx_keep (m2 - 1) (by omega) (by simp -dsimp -implicitDefEqProofs only [go_sem, Nat.reduceBEq, Nat.reduceAdd, Nat.reduceLeDiff, Nat.reduceMul, Int.reduceLE, Int.reduceLT, Int.reduceBEq, hks, hks2]) ⟨k + 1, le_set hle2 (by omega), by rw [hn_set]; omega, by simp -dsimp -implicitDefEqProofs only [go_sem, Nat.reduceBEq, Nat.reduceAdd, Nat.reduceLeDiff, Nat.reduceMul, Int.reduceLE, Int.reduceLT, Int.reduceBEq, hoo, hne3, rb], ?_, by simp -dsimp -implicitDefEqProofs only [go_sem, Nat.reduceBEq, Nat.reduceAdd, Nat.reduceLeDiff, Nat.reduceMul, Int.reduceLE, Int.reduceLT, Int.reduceBEq, w2], by omega⟩
      rw [hsn, hbump]
      simp -dsimp -implicitDefEqProofs only [go_sem, Nat.reduceBEq, Nat.reduceAdd, Nat.reduceLeDiff, Nat.reduceMul, Int.reduceLE, Int.reduceLT, Int.reduceBEq, hoo]
    · repeat (first | rw [kz_o] | rw [kz_r0] | simp -dsimp -implicitDefEqProofs only [go_sem, Nat.reduceBEq, Nat.reduceAdd, Nat.reduceLeDiff, Nat.reduceMul, Int.reduceLE, Int.reduceLT, Int.reduceBEq, hks, hks2, ek, q3, w1])
      have hkk : k = (e.requests.getD i default).table.pages.length := by omega
      refine nx_keep (mm - 1) (by omega) (by simp -dsimp -implicitDefEqProofs only [go_sem, Nat.reduceBEq, Nat.reduceAdd, Nat.reduceLeDiff, Nat.reduceMul, Int.reduceLE, Int.reduceLT, Int.reduceBEq, hks, hks2]) ⟨i + 1, hle2, hnn2, by simp -dsimp -implicitDefEqProofs only [go_sem, Nat.reduceBEq, Nat.reduceAdd, Nat.reduceLeDiff, Nat.reduceMul, Int.reduceLE, Int.reduceLT, Int.reduceBEq, rb], ?_, by simp -dsimp -implicitDefEqProofs only [go_sem, Nat.reduceBEq, Nat.reduceAdd, Nat.reduceLeDiff, Nat.reduceMul, Int.reduceLE, Int.reduceLT, Int.reduceBEq, w1], by omega, fun j hj => ?_⟩
      · rw [rv, hkk, List.take_length, wants_snoc q2]
      · by_cases hji : j = i
        · subst hji; exact h4
        · exact hpre j (by omega)
  repeat (first | rw [kz_o] | rw [kz_r0] | simp -dsimp -implicitDefEqProofs only [go_sem, Nat.reduceBEq, Nat.reduceAdd, Nat.reduceLeDiff, Nat.reduceMul, Int.reduceLE, Int.reduceLT, Int.reduceBEq, hks, ei, q1, ra, rw0])
  have hii : i = e.requests.length := by omega
  rw [hii, List.take_length] at rw0
  refine pw_intro (equalO_ok (f := F 14) (w := wantsL e.store.refs.length e.requests) (l := e.store.refs) rw0 wants_len (by omega)) ?_
  rintro _ n4 hn4 rfl
  repeat (first | rw [kz_o] | rw [kz_r0] | simp -dsimp -implicitDefEqProofs only [go_sem, Nat.reduceBEq, Nat.reduceAdd, Nat.reduceLeDiff, Nat.reduceMul, Int.reduceLE, Int.reduceLT, Int.reduceBEq])
  refine ⟨le_up hle hn4, ⟨_, rfl⟩, ?_⟩
  rw [hB, List.all_eq_true.2 fun x hx => ?_]
  · rfl
  · obtain ⟨j, hj, rfl⟩ := List.getElem_of_mem hx
    have := hpre j (by omega)
    rwa [List.getD_eq_getElem?_getD, List.getElem?_eq_getElem hj] at this
end Go.Bi
end
section
set_option linter.unusedSimpArgs false
set_option linter.unusedVariables false
set_option maxRecDepth 20000
namespace Go.Bi
open Go.Proofs
open Go.Ai (wrap_i64 Heap)
variable {W0 : World} {P : Program}
set_option maxHeartbeats 4000000
theorem specEngine_ok {F : Nat → Adr} {e : LEngine} {g : H2} (hs : smallEng e) (hrg : rngEngine e) : PW Tryz.prog W0 19 [.st (xEngine F e)] g (fun y => y = .raw (.bool (engB e))) := by
  obtain ⟨s1, s2, s3, s4, s5⟩ := id hs
  refine PW.scalar ?_
  refine start (P := Tryz.prog) [[0], [1], [], [1], [1, 3], [1, 3, 4], [1, 3, 4], [1, 3, 4], [], [1, 3, 4], [1, 3, 4, 5], [1, 3, 4, 5], [1, 3, 4, 5], [1, 3], [1, 3, 6], [1, 3, 6], [1, 3, 6], [], []] (by kernel_rfl) Tryz.func19 rfl (by decide) (by decide +kernel) (rs := [.tmp 2]) rfl rfl (Nat.le_of_ble_eq_true rfl) ?_
  intro wf
  repeat (first | rw [kz_o] | rw [kz_r0] | simp -dsimp -implicitDefEqProofs only [go_sem, Nat.reduceBEq, Nat.reduceAdd, Nat.reduceLeDiff, Nat.reduceMul, Int.reduceLE, Int.reduceLT, Int.reduceBEq, hoo])
  refine pw_intro (specModel_ok (F := F) (m := e.model) s1) ?_
  rintro _ n1 hn1 rfl
  simp only [hn_push] at hn1
  first | (rw [kz_r]; refine ⟨by simp -dsimp -implicitDefEqProofs only [go_sem, Nat.reduceBEq, Nat.reduceAdd, Nat.reduceLeDiff, Nat.reduceMul, Int.reduceLE, Int.reduceLT, Int.reduceBEq, hoo], ?_⟩) | skip
  cases h1 : modelB e.model
  · repeat (first | rw [kz_o] | rw [kz_r0] | simp -dsimp -implicitDefEqProofs only [go_sem, Nat.reduceBEq, Nat.reduceAdd, Nat.reduceLeDiff, Nat.reduceMul, Int.reduceLE, Int.reduceLT, Int.reduceBEq, hoo])
    exact ⟨by repeat (first | exact H2.le.refl _ | assumption | apply le_push | refine le_up ?_ (by first | assumption | (simp only [hn_up, hn_push] at *; omega))), ⟨_, rfl⟩, by rw [engB, h1]; rfl⟩
  repeat (first | rw [kz_o] | rw [kz_r0] | simp -dsimp -implicitDefEqProofs only [go_sem, Nat.reduceBEq, Nat.reduceAdd, Nat.reduceLeDiff, Nat.reduceMul, Int.reduceLE, Int.reduceLT, Int.reduceBEq, hoo])
  refine pw_intro (specStore_ok (F := fun j => F (j + 14)) (s := e.store) s2) ?_
  rintro _ n2 hn2 rfl
  simp only [hn_push, hn_up] at hn2
  first | (rw [kz_r]; refine ⟨by simp -dsimp -implicitDefEqProofs only [go_sem, Nat.reduceBEq, Nat.reduceAdd, Nat.reduceLeDiff, Nat.reduceMul, Int.reduceLE, Int.reduceLT, Int.reduceBEq, hoo], ?_⟩) | skip
  cases h2 : storeB e.store
  · repeat (first | rw [kz_o] | rw [kz_r0] | simp -dsimp -implicitDefEqProofs only [go_sem, Nat.reduceBEq, Nat.reduceAdd, Nat.reduceLeDiff, Nat.reduceMul, Int.reduceLE, Int.reduceLT, Int.reduceBEq, hoo])
    exact ⟨by repeat (first | exact H2.le.refl _ | assumption | apply le_push | refine le_up ?_ (by first | assumption | (simp only [hn_up, hn_push] at *; omega))), ⟨_, rfl⟩, by rw [engB, h1, h2]; rfl⟩
  by_cases h3 : (e.requests.length : Int) > 10
  · repeat (first | rw [kz_o] | rw [kz_r0] | simp -dsimp -implicitDefEqProofs only [go_sem, Nat.reduceBEq, Nat.reduceAdd, Nat.reduceLeDiff, Nat.reduceMul, Int.reduceLE, Int.reduceLT, Int.reduceBEq, hoo, h3])
    exact ⟨by repeat (first | exact H2.le.refl _ | assumption | apply le_push | refine le_up ?_ (by first | assumption | (simp only [hn_up, hn_push] at *; omega))), ⟨_, rfl⟩, by rw [engB, h1, h2, decide_eq_false (by omega)]; rfl⟩
  obtain ⟨hpl, hrl⟩ := storeB_len h2
  have hB : engB e = (e.requests.all (reqB e) && decide (wantsL e.store.refs.length e.requests = e.store.refs)) := by rw [engB, h1, h2, decide_eq_true (by omega)]; rfl
  repeat (first | rw [kz_o] | rw [kz_r0] | simp -dsimp -implicitDefEqProofs only [go_sem, Nat.reduceBEq, Nat.reduceAdd, Nat.reduceLeDiff, Nat.reduceMul, Int.reduceLE, Int.reduceLT, Int.reduceBEq, hoo, h3])
  refine make_intro Ai.ty_el27 Ai.ty_zr3 (by decide) ⟨by omega, by simp only [Int.toNat_natCast]; have : Ai.most = 1099511627776 := rfl; omega⟩ ?_
  simp only [hn_push, hn_up, Int.toNat_natCast]
  have hne0 : (hn g .mk == n2) = false := by simp; omega
  repeat (first | rw [kz_o] | rw [kz_r0] | simp -dsimp -implicitDefEqProofs only [go_sem, Nat.reduceBEq, Nat.reduceAdd, Nat.reduceLeDiff, Nat.reduceMul, Int.reduceLE, Int.reduceLT, Int.reduceBEq, hoo, hne0])
  refine lz_keep [1, 3] (fun mm s h' => ∃ (i : Nat), g.le h' ∧ n2 + 1 ≤ hn h' .mk ∧ hg h' (hn g .mk) .mk = some ⟨17, [.raw (.int .i64 e.model.dim), .raw (.int .i64 e.model.heads), .raw (.int .i64 e.model.context), .sl (F 3) 2 (rMergeS e.model.merges), .sl (F 4) 1 (rIntSS e.model.embed), .sl (F 5) 32 (rLayerS e.model.layers), .sl (F 6) 1 (ints e.model.gainEnd), .raw (.int .i64 e.model.head.width), .sl (F 8) 1 (rIntSS e.model.head.rows), .sl (F 9) 1 (rIntSS e.model.head.scales), .raw (.int .i64 e.model.head.mul), .raw (.int .i64 e.model.head.shift), .sl (F 12) 1 (rIntSS e.model.turns.cos), .sl (F 13) 1 (rIntSS e.model.turns.sin), .sl (F 14) 1 (ints e.store.refs), .sl (F 15) 1 (rCellSS e.store.pages), .sl (F 16) 10 (rRequestS e.requests)]⟩ ∧ hg h' n2 .mk = some ⟨1, (wantsL e.store.refs.length (e.requests.take i)).map cI⟩ ∧ look s 4 .mk = .raw (.int .i64 (i : Nat)) ∧ mm + i = e.requests.length ∧ ∀ j, j < i → reqB e (e.requests.getD j default) = true) e.requests.length ?_ ?_
  · have hne : (hn g .mk == n2) = false := by simp; omega
    refine ⟨0, by repeat (first | exact H2.le.refl _ | assumption | apply le_push | refine le_up ?_ (by first | assumption | (simp only [hn_up, hn_push] at *; omega))), by simp only [hn_push, hn_up]; omega, by simp -dsimp -implicitDefEqProofs only [go_sem, Nat.reduceBEq, Nat.reduceAdd, Nat.reduceLeDiff, Nat.reduceMul, Int.reduceLE, Int.reduceLT, Int.reduceBEq, hoo, hne] <;> rfl, ?_, by simp -dsimp -implicitDefEqProofs only [go_sem, Nat.reduceBEq, Nat.reduceAdd, Nat.reduceLeDiff, Nat.reduceMul, Int.reduceLE, Int.reduceLT, Int.reduceBEq], by omega, fun j hj => by omega⟩
    simp -dsimp -implicitDefEqProofs only [go_sem, Nat.reduceBEq, Nat.reduceAdd, Nat.reduceLeDiff, Nat.reduceMul, Int.reduceLE, Int.reduceLT, Int.reduceBEq, hoo, zeros_I]
    rfl
  rintro mm s h' hks ⟨i, hle, hnn, ra, rw0, ei, hmm, hpre⟩
  simp -dsimp -implicitDefEqProofs only [go_sem, Nat.reduceBEq, Nat.reduceAdd, Nat.reduceLeDiff, Nat.reduceMul, Int.reduceLE, Int.reduceLT, Int.reduceBEq] at hks
  have hwl : (wantsL e.store.refs.length (e.requests.take i)).length = e.store.refs.length := wants_len
  by_cases q1 : (i : Int) < (e.requests.length : Int)
  · have q2 : i < e.requests.length := by omega
    have w1 : IntKind.i64.wrap ((i : Int) + 1) = ((i + 1 : Nat) : Int) := by rw [wrap_i64] <;> omega
    repeat (first | rw [kz_o] | rw [kz_r0] | simp -dsimp -implicitDefEqProofs only [go_sem, Nat.reduceBEq, Nat.reduceAdd, Nat.reduceLeDiff, Nat.reduceMul, Int.reduceLE, Int.reduceLT, Int.reduceBEq, hks, ei, q1, q2, ra, rw0])
    refine dq_intro [(0, []), (1, []), (2, []), (3, []), (4, []), (5, []), (6, []), (7, [])] (by kernel_rfl) ?_
    repeat (first | rw [kz_o] | rw [kz_r0] | simp -dsimp -implicitDefEqProofs only [go_sem, Nat.reduceBEq, Nat.reduceAdd, Nat.reduceLeDiff, Nat.reduceMul, Int.reduceLE, Int.reduceLT, Int.reduceBEq, hks, ei, q1, q2, ra, rw0])
    refine pw_intro (specReq_ok (F := F) (F' := fun j => under (under (F 16) i) j) (r := e.requests.getD i default) h1 h2 hs (s5 i q2) (hrg _ (getD_memR q2)).1) ?_
    rintro _ n3 hn3 rfl
    first | (rw [kz_r]; refine ⟨by simp -dsimp -implicitDefEqProofs only [go_sem, Nat.reduceBEq, Nat.reduceAdd, Nat.reduceLeDiff, Nat.reduceMul, Int.reduceLE, Int.reduceLT, Int.reduceBEq, hks, ei, ra, rw0], ?_⟩) | skip
    cases h4 : reqB e (e.requests.getD i default)
    · repeat (first | rw [kz_o] | rw [kz_r0] | simp -dsimp -implicitDefEqProofs only [go_sem, Nat.reduceBEq, Nat.reduceAdd, Nat.reduceLeDiff, Nat.reduceMul, Int.reduceLE, Int.reduceLT, Int.reduceBEq, hks, ei, q1, q2, ra, rw0])
      refine ⟨le_up hle hn3, ⟨_, rfl⟩, ?_⟩
      rw [hB, Bool.and_eq_false_iff.2 (.inl ?_)]
      rw [List.all_eq_false]
      exact ⟨_, getD_memR q2, by rw [h4]; simp⟩
    obtain ⟨hp16, htb⟩ := reqB_pages h4
    have hpg := (table_t htb).2.2.2
    repeat (first | rw [kz_o] | rw [kz_r0] | simp -dsimp -implicitDefEqProofs only [go_sem, Nat.reduceBEq, Nat.reduceAdd, Nat.reduceLeDiff, Nat.reduceMul, Int.reduceLE, Int.reduceLT, Int.reduceBEq, hks, ei, q1, q2, ra, rw0])
    refine lz_keep [1, 3, 4] (fun m2 s2 h2' => ∃ (k : Nat), g.le h2' ∧ n2 + 1 ≤ hn h2' .mk ∧ hg h2' (hn g .mk) .mk = some ⟨17, [.raw (.int .i64 e.model.dim), .raw (.int .i64 e.model.heads), .raw (.int .i64 e.model.context), .sl (F 3) 2 (rMergeS e.model.merges), .sl (F 4) 1 (rIntSS e.model.embed), .sl (F 5) 32 (rLayerS e.model.layers), .sl (F 6) 1 (ints e.model.gainEnd), .raw (.int .i64 e.model.head.width), .sl (F 8) 1 (rIntSS e.model.head.rows), .sl (F 9) 1 (rIntSS e.model.head.scales), .raw (.int .i64 e.model.head.mul), .raw (.int .i64 e.model.head.shift), .sl (F 12) 1 (rIntSS e.model.turns.cos), .sl (F 13) 1 (rIntSS e.model.turns.sin), .sl (F 14) 1 (ints e.store.refs), .sl (F 15) 1 (rCellSS e.store.pages), .sl (F 16) 10 (rRequestS e.requests)]⟩ ∧ hg h2' n2 .mk = some ⟨1, (((e.requests.getD i default).table.pages.take k).foldl bump (wantsL e.store.refs.length (e.requests.take i))).map cI⟩ ∧ look s2 5 .mk = .raw (.int .i64 (k : Nat)) ∧ m2 + k = (e.requests.getD i default).table.pages.length) (e.requests.getD i default).table.pages.length ?_ ?_
    · refine ⟨0, le_up hle hn3, by rw [hn_up]; omega, by simp -dsimp -implicitDefEqProofs only [go_sem, Nat.reduceBEq, Nat.reduceAdd, Nat.reduceLeDiff, Nat.reduceMul, Int.reduceLE, Int.reduceLT, Int.reduceBEq, ra] <;> rfl, by simp -dsimp -implicitDefEqProofs only [go_sem, Nat.reduceBEq, Nat.reduceAdd, Nat.reduceLeDiff, Nat.reduceMul, Int.reduceLE, Int.reduceLT, Int.reduceBEq, rw0] <;> rfl, by simp -dsimp -implicitDefEqProofs only [go_sem, Nat.reduceBEq, Nat.reduceAdd, Nat.reduceLeDiff, Nat.reduceMul, Int.reduceLE, Int.reduceLT, Int.reduceBEq], by omega⟩
    rintro m2 s2 h2' hks2 ⟨k, hle2, hnn2, rb, rv, ek, hm2⟩
    simp -dsimp -implicitDefEqProofs only [go_sem, Nat.reduceBEq, Nat.reduceAdd, Nat.reduceLeDiff, Nat.reduceMul, Int.reduceLE, Int.reduceLT, Int.reduceBEq, hks, ei] at hks2
    have hwi : inB (16 * i) (wantsL e.store.refs.length (e.requests.take i)) := wants_in' (fun j hj => (reqB_pages (hpre j hj)).1) (by omega)
    have hwk := bumps_in (ps := (e.requests.getD i default).table.pages.take k) (B := 16 * i) (by omega) hwi
    have hvl : (((e.requests.getD i default).table.pages.take k).foldl bump (wantsL e.store.refs.length (e.requests.take i))).length = e.store.refs.length := by rw [bumps_len, hwl]
    by_cases q3 : (k : Int) < ((e.requests.getD i default).table.pages.length : Int)
    · have q4 : k < (e.requests.getD i default).table.pages.length := by omega
      have w2 : IntKind.i64.wrap ((k : Int) + 1) = ((k + 1 : Nat) : Int) := by rw [wrap_i64] <;> omega
      obtain ⟨p1, p2, p3⟩ := pgB_t (hpg k q4)
      obtain ⟨p, hp⟩ := Int.eq_ofNat_of_zero_le p1.1
      have k1 : p < e.store.refs.length := by omega
      have hsn := bumps_snoc (ps := (e.requests.getD i default).table.pages) (w := wantsL e.store.refs.length (e.requests.take i)) q4
      generalize hwdef : ((e.requests.getD i default).table.pages.take k).foldl bump (wantsL e.store.refs.length (e.requests.take i)) = w at *
      have hb := hwk p
      have hlk : (((e.requests.getD i default).table.pages.take k).length : Int) ≤ 16 := by rw [List.length_take]; omega
      have w3 : IntKind.i64.wrap (w.getD p default + 1) = w.getD p default + 1 := by rw [wrap_i64] <;> omega
      have gw := get_W (l := w) (i := p) (by omega)
      have ww := wrt_W (l := w) (i := p) (v := w.getD p default + 1) (by omega)
      have hi2 : (0 : Int) ≤ (p : Int) ∧ (p : Int) < (e.store.refs.length : Int) := by omega
      have hbump : bump w ((e.requests.getD i default).table.pages.getD k default) = w.set p (w.getD p default + 1) := by rw [hp]; rfl
      have hne3 : (hn g .mk == n2) = false := by simp; omega
      repeat (first | rw [kz_o] | rw [kz_r0] | simp -dsimp -implicitDefEqProofs only [go_sem, Nat.reduceBEq, Nat.reduceAdd, Nat.reduceLeDiff, Nat.reduceMul, Int.reduceLE, Int.reduceLT, Int.reduceBEq, hks, hks2, ei, ek, q2, q3, rb, rv])
      refine dq_intro [(0, []), (1, []), (2, []), (3, []), (4, []), (5, []), (6, []), (7, []), (8, []), (9, []), (10, []), (11, []), (12, []), (13, []), (14, []), (15, []), (16, []), (17, []), (18, []), (19, []), (20, []), (21, []), (22, []), (23, []), (24, []), (25, []), (26, [])] (by kernel_rfl) ?_
      repeat (first | rw [kz_o] | rw [kz_r0] | simp -dsimp -implicitDefEqProofs only [go_sem, Nat.reduceBEq, Nat.reduceAdd, Nat.reduceLeDiff, Nat.reduceMul, Int.reduceLE, Int.reduceLT, Int.reduceBEq, hks, hks2, ei, ek, q2, q3, q4, rb, rv, hp, hi2, nat_nn, Int.toNat_natCast, k1, gw, ww, w3, w2, hoo])
      refine nx_keep (m2 - 1) (by omega) (by simp -dsimp -implicitDefEqProofs only [go_sem, Nat.reduceBEq, Nat.reduceAdd, Nat.reduceLeDiff, Nat.reduceMul, Int.reduceLE, Int.reduceLT, Int.reduceBEq, hks, hks2]) ⟨k + 1, le_set hle2 (by omega), by rw [hn_set]; omega, by simp -dsimp -implicitDefEqProofs only [go_sem, Nat.reduceBEq, Nat.reduceAdd, Nat.reduceLeDiff, Nat.reduceMul, Int.reduceLE, Int.reduceLT, Int.reduceBEq, hoo, hne3, rb], ?_, by simp -dsimp -implicitDefEqProofs only [go_sem, Nat.reduceBEq, Nat.reduceAdd, Nat.reduceLeDiff, Nat.reduceMul, Int.reduceLE, Int.reduceLT, Int.reduceBEq, w2], by omega⟩
      rw [hsn, hbump]
      simp -dsimp -implicitDefEqProofs only [go_sem, Nat.reduceBEq, Nat.reduceAdd, Nat.reduceLeDiff, Nat.reduceMul, Int.reduceLE, Int.reduceLT, Int.reduceBEq, hoo]
    · repeat (first | rw [kz_o] | rw [kz_r0] | simp -dsimp -implicitDefEqProofs only [go_sem, Nat.reduceBEq, Nat.reduceAdd, Nat.reduceLeDiff, Nat.reduceMul, Int.reduceLE, Int.reduceLT, Int.reduceBEq, hks, hks2, ei, ek, q2, q3, rb, w1])
      have hkk : k = (e.requests.getD i default).table.pages.length := by omega
      refine nx_keep (mm - 1) (by omega) (by simp -dsimp -implicitDefEqProofs only [go_sem, Nat.reduceBEq, Nat.reduceAdd, Nat.reduceLeDiff, Nat.reduceMul, Int.reduceLE, Int.reduceLT, Int.reduceBEq, hks, hks2]) ⟨i + 1, hle2, hnn2, by simp -dsimp -implicitDefEqProofs only [go_sem, Nat.reduceBEq, Nat.reduceAdd, Nat.reduceLeDiff, Nat.reduceMul, Int.reduceLE, Int.reduceLT, Int.reduceBEq, rb], ?_, by simp -dsimp -implicitDefEqProofs only [go_sem, Nat.reduceBEq, Nat.reduceAdd, Nat.reduceLeDiff, Nat.reduceMul, Int.reduceLE, Int.reduceLT, Int.reduceBEq, w1], by omega, fun j hj => ?_⟩
      · rw [rv, hkk, List.take_length, wants_snoc q2]
      · by_cases hji : j = i
        · subst hji; exact h4
        · exact hpre j (by omega)
  repeat (first | rw [kz_o] | rw [kz_r0] | simp -dsimp -implicitDefEqProofs only [go_sem, Nat.reduceBEq, Nat.reduceAdd, Nat.reduceLeDiff, Nat.reduceMul, Int.reduceLE, Int.reduceLT, Int.reduceBEq, hks, ei, q1, ra, rw0])
  have hii : i = e.requests.length := by omega
  rw [hii, List.take_length] at rw0 hwl
  have hall : e.requests.all (reqB e) = true := by
    rw [List.all_eq_true]
    intro x hx
    obtain ⟨j, hj, rfl⟩ := List.getElem_of_mem hx
    have := hpre j (by omega)
    rwa [List.getD_eq_getElem?_getD, List.getElem?_eq_getElem hj] at this
  rw [hB, hall, Bool.true_and]
  generalize hwdef : wantsL e.store.refs.length e.requests = w at *
  refine lz_keep [1, 3] (fun m3 s3 h3' => ∃ (k : Nat), h3' = h' ∧ look s3 6 .mk = .raw (.int .i64 (k : Nat)) ∧ m3 + k = e.store.refs.length ∧ ∀ j, j < k → w.getD j default = e.store.refs.getD j default) e.store.refs.length ?_ ?_
  · exact ⟨0, rfl, by simp -dsimp -implicitDefEqProofs only [go_sem, Nat.reduceBEq, Nat.reduceAdd, Nat.reduceLeDiff, Nat.reduceMul, Int.reduceLE, Int.reduceLT, Int.reduceBEq], by omega, fun j hj => by omega⟩
  rintro m3 s3 _ hks3 ⟨k, rfl, ek, hm3, hpre3⟩
  simp -dsimp -implicitDefEqProofs only [go_sem, Nat.reduceBEq, Nat.reduceAdd, Nat.reduceLeDiff, Nat.reduceMul, Int.reduceLE, Int.reduceLT, Int.reduceBEq, hks] at hks3
  by_cases q3 : (k : Int) < (e.store.refs.length : Int)
  · have q4 : k < e.store.refs.length := by omega
    have w2 : IntKind.i64.wrap ((k : Int) + 1) = ((k + 1 : Nat) : Int) := by rw [wrap_i64] <;> omega
    have gw := get_W (l := w) (i := k) (by omega)
    have hi2 : (0 : Int) ≤ (k : Int) ∧ (k : Int) < (e.store.refs.length : Int) := by omega
    by_cases q5 : w.getD k default = e.store.refs.getD k default
    · have e5 : decide (¬ w.getD k default = e.store.refs.getD k default) = false := decide_eq_false (fun h => h q5)
      repeat (first | rw [kz_o] | rw [kz_r0] | simp -dsimp -implicitDefEqProofs only [go_sem, Nat.reduceBEq, Nat.reduceAdd, Nat.reduceLeDiff, Nat.reduceMul, Int.reduceLE, Int.reduceLT, Int.reduceBEq, hks3, ek, q3, q4, ra, rw0, hi2, nat_nn, Int.toNat_natCast, gw])
      refine dq_intro [(0, []), (1, []), (2, []), (3, []), (4, []), (5, []), (6, []), (7, []), (8, []), (9, []), (10, [])] (by kernel_rfl) ?_
      repeat (first | rw [kz_o] | rw [kz_r0] | simp -dsimp -implicitDefEqProofs only [go_sem, Nat.reduceBEq, Nat.reduceAdd, Nat.reduceLeDiff, Nat.reduceMul, Int.reduceLE, Int.reduceLT, Int.reduceBEq, hks3, ek, q3, q4, ra, rw0, hi2, nat_nn, Int.toNat_natCast, gw, e5, w2])
      refine nx_keep (m3 - 1) (by omega) (by simp -dsimp -implicitDefEqProofs only [go_sem, Nat.reduceBEq, Nat.reduceAdd, Nat.reduceLeDiff, Nat.reduceMul, Int.reduceLE, Int.reduceLT, Int.reduceBEq, hks3]) ⟨k + 1, rfl, by simp -dsimp -implicitDefEqProofs only [go_sem, Nat.reduceBEq, Nat.reduceAdd, Nat.reduceLeDiff, Nat.reduceMul, Int.reduceLE, Int.reduceLT, Int.reduceBEq, w2], by omega, fun j hj => ?_⟩
      by_cases hji : j = k
      · subst hji; exact q5
      · exact hpre3 j (by omega)
    · have e5 : decide (¬ w.getD k default = e.store.refs.getD k default) = true := decide_eq_true q5
      repeat (first | rw [kz_o] | rw [kz_r0] | simp -dsimp -implicitDefEqProofs only [go_sem, Nat.reduceBEq, Nat.reduceAdd, Nat.reduceLeDiff, Nat.reduceMul, Int.reduceLE, Int.reduceLT, Int.reduceBEq, hks3, ek, q3, q4, ra, rw0, hi2, nat_nn, Int.toNat_natCast, gw])
      refine dq_intro [(0, []), (1, []), (2, []), (3, []), (4, []), (5, []), (6, []), (7, []), (8, []), (9, []), (10, [])] (by kernel_rfl) ?_
      repeat (first | rw [kz_o] | rw [kz_r0] | simp -dsimp -implicitDefEqProofs only [go_sem, Nat.reduceBEq, Nat.reduceAdd, Nat.reduceLeDiff, Nat.reduceMul, Int.reduceLE, Int.reduceLT, Int.reduceBEq, hks3, ek, q3, q4, ra, rw0, hi2, nat_nn, Int.toNat_natCast, gw, e5])
      exact ⟨hle, ⟨_, rfl⟩, by rw [decide_eq_false fun h => q5 (by rw [h])]⟩
  · repeat (first | rw [kz_o] | rw [kz_r0] | simp -dsimp -implicitDefEqProofs only [go_sem, Nat.reduceBEq, Nat.reduceAdd, Nat.reduceLeDiff, Nat.reduceMul, Int.reduceLE, Int.reduceLT, Int.reduceBEq, hks3, ek, q3])
    refine ⟨hle, ⟨_, rfl⟩, ?_⟩
    rw [decide_eq_true]
    refine List.ext_getElem (by omega) fun j a b => ?_
    have := hpre3 j (by omega)
    rwa [List.getD_eq_getElem?_getD, List.getD_eq_getElem?_getD, List.getElem?_eq_getElem a, List.getElem?_eq_getElem b] at this
end Go.Bi
end
section
set_option linter.unusedSimpArgs false
set_option linter.unusedVariables false
set_option maxRecDepth 20000
namespace Go.Bi
open Go.Proofs
open Go.Ai (wrap_i64 Heap)
variable {W0 : World} {P : Program}
theorem hobE (b : Bool) : (b == b) = true := by simp
attribute [go_sem] hobE
theorem eqEngine_tree {g : H2} {c : LEngine} {bs bs' : List Nat} {ys ys' : List X} (o : OTs g bs ys (eEngine c)) (o' : OTs g bs' ys' (eEngine c)) (hf : fitEngine c) : PW Tryz.prog W0 21 [.st ys, .st ys'] g (fun y => y = .raw (.bool true)) := by
  obtain ⟨F, hF⟩ := o.lent
  obtain ⟨F', hF'⟩ := o'.lent
  exact PW.lend (.cons hF (.cons hF' .nil)) (eqEngine_ok (F := F) (F' := F') hf) (fun y h => by subst h; exact .raw)
theorem implEngine_tree {e : LEngine} {g : H2} {bs : List Nat} {ys : List X} (o : OTs g bs ys (eEngine e)) (hs : smallEng e) (hr : rngEngine e) :
    WC2 Tryz.prog W0 15 [.st ys] g (fun x g' => g.le g' ∧ x = .raw (.bool (engB e))) := by
  obtain ⟨F, hF⟩ := o.lent
  have c1 : PW Tryz.prog W0 15 [.st ys] g (fun r => r = .raw (.bool (engB e))) := PW.lend (.cons hF .nil) (implEngine_ok (F := F) hs) (fun y h => by rw [h]; exact .raw)
  refine WC2.mono c1 ?_
  rintro x g' ⟨h1, h2, h3⟩
  exact ⟨by rw [h1]; exact le_up (H2.le.refl _) h2, h3⟩
theorem specEngine_tree {e : LEngine} {g : H2} {bs : List Nat} {ys : List X} (o : OTs g bs ys (eEngine e)) (hs : smallEng e) (hr : rngEngine e) :
    WC2 Tryz.prog W0 19 [.st ys] g (fun x g' => g.le g' ∧ x = .raw (.bool (engB e))) := by
  obtain ⟨F, hF⟩ := o.lent
  have c1 : PW Tryz.prog W0 19 [.st ys] g (fun r => r = .raw (.bool (engB e))) := PW.lend (.cons hF .nil) (specEngine_ok (F := F) hs hr) (fun y h => by rw [h]; exact .raw)
  refine WC2.mono c1 ?_
  rintro x g' ⟨h1, h2, h3⟩
  exact ⟨by rw [h1]; exact le_up (H2.le.refl _) h2, h3⟩
end Go.Bi
end
section
set_option linter.unusedSimpArgs false
set_option linter.unusedVariables false
set_option maxRecDepth 20000
namespace Go.Bi
open Go.Proofs
open Go.Ai (wrap_i64)
variable {W0 : World}
theorem FnExactEngineOk_ok {F0 : Nat → Adr} {e : LEngine} {h : H2} (hf0 : fitEngine e) (hrg : rngEngine e) : WC2 Tryz.prog W0 4 [.st (xEngine F0 e)] h (fun v h' => v = .raw (.bool true)) := by
  refine start (P := Tryz.prog) [[0], [1], [1, 3], [1, 3], [], [1], [1, 4], [1, 4, 5], [1, 4, 5, 6], [], [1, 5], [], []] (by kernel_rfl) Tryz.func4 rfl (by decide) (by decide +kernel) (rs := [.tmp 2]) rfl rfl (Nat.le_of_ble_eq_true rfl) ?_
  intro wf
  repeat (first | rw [kz_o] | rw [kz_r0] | simp -dsimp -implicitDefEqProofs only [go_sem, Nat.reduceBEq, Nat.reduceAdd, Nat.reduceLeDiff, Nat.reduceMul, Int.reduceLE, Int.reduceLT, Int.reduceBEq])
  refine pw_intro (szEngine_ok hf0 ⟨by omega, by omega⟩) ?_
  rintro _ n1 hn1 ⟨k1, rfl, hk1⟩
  have hm1 := hn1
  try simp only [hn_push, hn_up] at hm1
  repeat (first | rw [kz_o] | rw [kz_r0] | simp -dsimp -implicitDefEqProofs only [go_sem, Nat.reduceBEq, Nat.reduceAdd, Nat.reduceLeDiff, Nat.reduceMul, Int.reduceLE, Int.reduceLT, Int.reduceBEq, hoo])
  refine gz_dec (fun q2 => ?_) (fun q2 => ?_)
  · repeat (first | rw [kz_o] | rw [kz_r0] | simp -dsimp -implicitDefEqProofs only [go_sem, Nat.reduceBEq, Nat.reduceAdd, Nat.reduceLeDiff, Nat.reduceMul, Int.reduceLE, Int.reduceLT, Int.reduceBEq])
    rfl
  have hsz_e : szEngine e ≤ 1048576 := by omega
  have hsm := smallEng_of hsz_e
  repeat (first | rw [kz_o] | rw [kz_r0] | simp -dsimp -implicitDefEqProofs only [go_sem, Nat.reduceBEq, Nat.reduceAdd, Nat.reduceLeDiff, Nat.reduceMul, Int.reduceLE, Int.reduceLT, Int.reduceBEq, hoo])
  refine wz_intro (toEngine_ok (by omega)) ?_
  rintro _ g3 ⟨l3, ys3, b3, rfl, o3, bl3⟩
  try simp only [hn_push, hn_up] at bl3
  have nn3 := l3.n
  try simp only [hn_push, hn_up] at nn3
  have LL3 : h.le g3 := H2.le.trans (by repeat (first | exact H2.le.refl _ | apply le_push | refine le_up ?_ (by assumption))) l3
  have ln3 := LL3.n
  have row0 : hg g3 (hn h .mk) .mk = some ⟨17, xEngine F0 e⟩ := (l3.2 (hn h .mk) (by simp only [hn_push, hn_up]; omega)).trans (by simp -dsimp -implicitDefEqProofs only [go_sem, Nat.reduceBEq, Nat.reduceAdd, Nat.reduceLeDiff, Nat.reduceMul, Int.reduceLE, Int.reduceLT, Int.reduceBEq, hoo])
  obtain ⟨b3_3, s3_3, b3_4, s3_4, b3_5, s3_5, b3_6, s3_6, b3_8, s3_8, b3_9, s3_9, b3_12, s3_12, b3_13, s3_13, b3_14, s3_14, b3_15, s3_15, b3_16, s3_16, rfl, rfl, o3_3, o3_4, o3_5, o3_6, o3_8, o3_9, o3_12, o3_13, o3_14, o3_15, o3_16⟩ := invEngine o3
  clear o3
  have bl3_3 := bl3.split.1
  have ce3_3 := OT.cell o3_3
  have bl3_4 := bl3.split.2.1.split.1
  have ce3_4 := OT.cell o3_4
  have bl3_5 := bl3.split.2.1.split.2.1.split.1
  have ce3_5 := OT.cell o3_5
  have bl3_6 := bl3.split.2.1.split.2.1.split.2.1.split.1
  have ce3_6 := OT.cell o3_6
  have bl3_8 := bl3.split.2.1.split.2.1.split.2.1.split.2.1.split.1
  have ce3_8 := OT.cell o3_8
  have bl3_9 := bl3.split.2.1.split.2.1.split.2.1.split.2.1.split.2.1.split.1
  have ce3_9 := OT.cell o3_9
  have bl3_12 := bl3.split.2.1.split.2.1.split.2.1.split.2.1.split.2.1.split.2.1.split.1
  have ce3_12 := OT.cell o3_12
  have bl3_13 := bl3.split.2.1.split.2.1.split.2.1.split.2.1.split.2.1.split.2.1.split.2.1.split.1
  have ce3_13 := OT.cell o3_13
  have bl3_14 := bl3.split.2.1.split.2.1.split.2.1.split.2.1.split.2.1.split.2.1.split.2.1.split.2.1.split.1
  have ce3_14 := OT.cell o3_14
  have bl3_15 := bl3.split.2.1.split.2.1.split.2.1.split.2.1.split.2.1.split.2.1.split.2.1.split.2.1.split.2.1.split.1
  have ce3_15 := OT.cell o3_15
  have bl3_16 := bl3.split.2.1.split.2.1.split.2.1.split.2.1.split.2.1.split.2.1.split.2.1.split.2.1.split.2.1.split.2.1
  have ce3_16 := OT.cell o3_16
  repeat (first | rw [kz_o] | rw [kz_r0] | simp -dsimp -implicitDefEqProofs only [go_sem, Nat.reduceBEq, Nat.reduceAdd, Nat.reduceLeDiff, Nat.reduceMul, Int.reduceLE, Int.reduceLT, Int.reduceBEq, ce3_3, ce3_4, ce3_5, ce3_6, ce3_8, ce3_9, ce3_12, ce3_13, ce3_14, ce3_15, ce3_16, row0, hoo])
  refine wz_intro (specEngine_tree (outEngine (c := e) (o3_3.keep (by repeat (first | exact H2.le.refl _ | apply le_push | refine le_up ?_ (by assumption))) (bl3_3.wide (Nat.le_refl _) (by omega))) (o3_4.keep (by repeat (first | exact H2.le.refl _ | apply le_push | refine le_up ?_ (by assumption))) (bl3_4.wide (Nat.le_refl _) (by omega))) (o3_5.keep (by repeat (first | exact H2.le.refl _ | apply le_push | refine le_up ?_ (by assumption))) (bl3_5.wide (Nat.le_refl _) (by omega))) (o3_6.keep (by repeat (first | exact H2.le.refl _ | apply le_push | refine le_up ?_ (by assumption))) (bl3_6.wide (Nat.le_refl _) (by omega))) (o3_8.keep (by repeat (first | exact H2.le.refl _ | apply le_push | refine le_up ?_ (by assumption))) (bl3_8.wide (Nat.le_refl _) (by omega))) (o3_9.keep (by repeat (first | exact H2.le.refl _ | apply le_push | refine le_up ?_ (by assumption))) (bl3_9.wide (Nat.le_refl _) (by omega))) (o3_12.keep (by repeat (first | exact H2.le.refl _ | apply le_push | refine le_up ?_ (by assumption))) (bl3_12.wide (Nat.le_refl _) (by omega))) (o3_13.keep (by repeat (first | exact H2.le.refl _ | apply le_push | refine le_up ?_ (by assumption))) (bl3_13.wide (Nat.le_refl _) (by omega))) (o3_14.keep (by repeat (first | exact H2.le.refl _ | apply le_push | refine le_up ?_ (by assumption))) (bl3_14.wide (Nat.le_refl _) (by omega))) (o3_15.keep (by repeat (first | exact H2.le.refl _ | apply le_push | refine le_up ?_ (by assumption))) (bl3_15.wide (Nat.le_refl _) (by omega))) (o3_16.keep (by repeat (first | exact H2.le.refl _ | apply le_push | refine le_up ?_ (by assumption))) (bl3_16.wide (Nat.le_refl _) (by omega)))) hsm hrg) ?_
  rintro _ g4 ⟨l4, rfl⟩
  have nn4 := l4.n
  try simp only [hn_push, hn_up] at nn4
  have LL4 : g3.le g4 := H2.le.trans (by repeat (first | exact H2.le.refl _ | apply le_push | refine le_up ?_ (by assumption))) l4
  have ln4 := LL4.n
  replace o3_3 := o3_3.keep LL4 (bl3_3.wide (Nat.le_refl _) (by omega))
  replace o3_4 := o3_4.keep LL4 (bl3_4.wide (Nat.le_refl _) (by omega))
  replace o3_5 := o3_5.keep LL4 (bl3_5.wide (Nat.le_refl _) (by omega))
  replace o3_6 := o3_6.keep LL4 (bl3_6.wide (Nat.le_refl _) (by omega))
  replace o3_8 := o3_8.keep LL4 (bl3_8.wide (Nat.le_refl _) (by omega))
  replace o3_9 := o3_9.keep LL4 (bl3_9.wide (Nat.le_refl _) (by omega))
  replace o3_12 := o3_12.keep LL4 (bl3_12.wide (Nat.le_refl _) (by omega))
  replace o3_13 := o3_13.keep LL4 (bl3_13.wide (Nat.le_refl _) (by omega))
  replace o3_14 := o3_14.keep LL4 (bl3_14.wide (Nat.le_refl _) (by omega))
  replace o3_15 := o3_15.keep LL4 (bl3_15.wide (Nat.le_refl _) (by omega))
  replace o3_16 := o3_16.keep LL4 (bl3_16.wide (Nat.le_refl _) (by omega))
  replace row0 := (LL4.2 (hn h .mk) (by omega)).trans row0
  repeat (first | rw [kz_o] | rw [kz_r0] | simp -dsimp -implicitDefEqProofs only [go_sem, Nat.reduceBEq, Nat.reduceAdd, Nat.reduceLeDiff, Nat.reduceMul, Int.reduceLE, Int.reduceLT, Int.reduceBEq, row0, hoo])
  refine wz_intro (toEngine_ok (by omega)) ?_
  rintro _ g5 ⟨l5, ys5, b5, rfl, o5, bl5⟩
  try simp only [hn_push, hn_up] at bl5
  have nn5 := l5.n
  try simp only [hn_push, hn_up] at nn5
  have LL5 : g4.le g5 := H2.le.trans (by repeat (first | exact H2.le.refl _ | apply le_push | refine le_up ?_ (by assumption))) l5
  have ln5 := LL5.n
  replace row0 := (LL5.2 (hn h .mk) (by omega)).trans row0
  obtain ⟨b5_3, s5_3, b5_4, s5_4, b5_5, s5_5, b5_6, s5_6, b5_8, s5_8, b5_9, s5_9, b5_12, s5_12, b5_13, s5_13, b5_14, s5_14, b5_15, s5_15, b5_16, s5_16, rfl, rfl, o5_3, o5_4, o5_5, o5_6, o5_8, o5_9, o5_12, o5_13, o5_14, o5_15, o5_16⟩ := invEngine o5
  clear o5
  have bl5_3 := bl5.split.1
  have ce5_3 := OT.cell o5_3
  have bl5_4 := bl5.split.2.1.split.1
  have ce5_4 := OT.cell o5_4
  have bl5_5 := bl5.split.2.1.split.2.1.split.1
  have ce5_5 := OT.cell o5_5
  have bl5_6 := bl5.split.2.1.split.2.1.split.2.1.split.1
  have ce5_6 := OT.cell o5_6
  have bl5_8 := bl5.split.2.1.split.2.1.split.2.1.split.2.1.split.1
  have ce5_8 := OT.cell o5_8
  have bl5_9 := bl5.split.2.1.split.2.1.split.2.1.split.2.1.split.2.1.split.1
  have ce5_9 := OT.cell o5_9
  have bl5_12 := bl5.split.2.1.split.2.1.split.2.1.split.2.1.split.2.1.split.2.1.split.1
  have ce5_12 := OT.cell o5_12
  have bl5_13 := bl5.split.2.1.split.2.1.split.2.1.split.2.1.split.2.1.split.2.1.split.2.1.split.1
  have ce5_13 := OT.cell o5_13
  have bl5_14 := bl5.split.2.1.split.2.1.split.2.1.split.2.1.split.2.1.split.2.1.split.2.1.split.2.1.split.1
  have ce5_14 := OT.cell o5_14
  have bl5_15 := bl5.split.2.1.split.2.1.split.2.1.split.2.1.split.2.1.split.2.1.split.2.1.split.2.1.split.2.1.split.1
  have ce5_15 := OT.cell o5_15
  have bl5_16 := bl5.split.2.1.split.2.1.split.2.1.split.2.1.split.2.1.split.2.1.split.2.1.split.2.1.split.2.1.split.2.1
  have ce5_16 := OT.cell o5_16
  have ne6 : ((hn h .mk) == (hn g5 .mk)) = false := by simp; omega
  have nf6 : ((hn g5 .mk) == (hn h .mk)) = false := by simp; omega
  repeat (first | rw [kz_o] | rw [kz_r0] | simp -dsimp -implicitDefEqProofs only [go_sem, Nat.reduceBEq, Nat.reduceAdd, Nat.reduceLeDiff, Nat.reduceMul, Int.reduceLE, Int.reduceLT, Int.reduceBEq, ce5_3, ce5_4, ce5_5, ce5_6, ce5_8, ce5_9, ce5_12, ce5_13, ce5_14, ce5_15, ce5_16, row0, ne6, nf6, hoo])
  refine wz_intro (implEngine_tree (outEngine (c := e) (o5_3.keep (by repeat (first | exact H2.le.refl _ | apply le_push | refine le_up ?_ (by assumption))) (bl5_3.wide (Nat.le_refl _) (by omega))) (o5_4.keep (by repeat (first | exact H2.le.refl _ | apply le_push | refine le_up ?_ (by assumption))) (bl5_4.wide (Nat.le_refl _) (by omega))) (o5_5.keep (by repeat (first | exact H2.le.refl _ | apply le_push | refine le_up ?_ (by assumption))) (bl5_5.wide (Nat.le_refl _) (by omega))) (o5_6.keep (by repeat (first | exact H2.le.refl _ | apply le_push | refine le_up ?_ (by assumption))) (bl5_6.wide (Nat.le_refl _) (by omega))) (o5_8.keep (by repeat (first | exact H2.le.refl _ | apply le_push | refine le_up ?_ (by assumption))) (bl5_8.wide (Nat.le_refl _) (by omega))) (o5_9.keep (by repeat (first | exact H2.le.refl _ | apply le_push | refine le_up ?_ (by assumption))) (bl5_9.wide (Nat.le_refl _) (by omega))) (o5_12.keep (by repeat (first | exact H2.le.refl _ | apply le_push | refine le_up ?_ (by assumption))) (bl5_12.wide (Nat.le_refl _) (by omega))) (o5_13.keep (by repeat (first | exact H2.le.refl _ | apply le_push | refine le_up ?_ (by assumption))) (bl5_13.wide (Nat.le_refl _) (by omega))) (o5_14.keep (by repeat (first | exact H2.le.refl _ | apply le_push | refine le_up ?_ (by assumption))) (bl5_14.wide (Nat.le_refl _) (by omega))) (o5_15.keep (by repeat (first | exact H2.le.refl _ | apply le_push | refine le_up ?_ (by assumption))) (bl5_15.wide (Nat.le_refl _) (by omega))) (o5_16.keep (by repeat (first | exact H2.le.refl _ | apply le_push | refine le_up ?_ (by assumption))) (bl5_16.wide (Nat.le_refl _) (by omega)))) hsm hrg) ?_
  rintro _ g7 ⟨l7, rfl⟩
  have nn7 := l7.n
  try simp only [hn_push, hn_up] at nn7
  have LL7 : g5.le g7 := H2.le.trans (by repeat (first | exact H2.le.refl _ | apply le_push | refine le_up ?_ (by assumption))) l7
  have ln7 := LL7.n
  replace o5_3 := o5_3.keep LL7 (bl5_3.wide (Nat.le_refl _) (by omega))
  replace o5_4 := o5_4.keep LL7 (bl5_4.wide (Nat.le_refl _) (by omega))
  replace o5_5 := o5_5.keep LL7 (bl5_5.wide (Nat.le_refl _) (by omega))
  replace o5_6 := o5_6.keep LL7 (bl5_6.wide (Nat.le_refl _) (by omega))
  replace o5_8 := o5_8.keep LL7 (bl5_8.wide (Nat.le_refl _) (by omega))
  replace o5_9 := o5_9.keep LL7 (bl5_9.wide (Nat.le_refl _) (by omega))
  replace o5_12 := o5_12.keep LL7 (bl5_12.wide (Nat.le_refl _) (by omega))
  replace o5_13 := o5_13.keep LL7 (bl5_13.wide (Nat.le_refl _) (by omega))
  replace o5_14 := o5_14.keep LL7 (bl5_14.wide (Nat.le_refl _) (by omega))
  replace o5_15 := o5_15.keep LL7 (bl5_15.wide (Nat.le_refl _) (by omega))
  replace o5_16 := o5_16.keep LL7 (bl5_16.wide (Nat.le_refl _) (by omega))
  replace row0 := (LL7.2 (hn h .mk) (by omega)).trans row0
  have row1 : hg g7 (hn g5 .mk) .mk = some ⟨17, [.raw (.int .i64 e.model.dim), .raw (.int .i64 e.model.heads), .raw (.int .i64 e.model.context), s5_3, s5_4, s5_5, s5_6, .raw (.int .i64 e.model.head.width), s5_8, s5_9, .raw (.int .i64 e.model.head.mul), .raw (.int .i64 e.model.head.shift), s5_12, s5_13, s5_14, s5_15, s5_16]⟩ := (l7.2 (hn g5 .mk) (by simp only [hn_push, hn_up]; omega)).trans (by simp -dsimp -implicitDefEqProofs only [go_sem, Nat.reduceBEq, Nat.reduceAdd, Nat.reduceLeDiff, Nat.reduceMul, Int.reduceLE, Int.reduceLT, Int.reduceBEq, ne6, nf6, ce5_3, ce5_4, ce5_5, ce5_6, ce5_8, ce5_9, ce5_12, ce5_13, ce5_14, ce5_15, ce5_16, row0, hoo])
  repeat (first | rw [kz_o] | rw [kz_r0] | simp -dsimp -implicitDefEqProofs only [go_sem, Nat.reduceBEq, Nat.reduceAdd, Nat.reduceLeDiff, Nat.reduceMul, Int.reduceLE, Int.reduceLT, Int.reduceBEq, ne6, nf6, ce5_3, ce5_4, ce5_5, ce5_6, ce5_8, ce5_9, ce5_12, ce5_13, ce5_14, ce5_15, ce5_16, row0, row1, hoo])
  refine dq_intro [(0, []), (1, []), (2, [0]), (3, []), (4, [])] (by kernel_rfl) ?_
  repeat (first | rw [kz_o] | rw [kz_r0] | simp -dsimp -implicitDefEqProofs only [go_sem, Nat.reduceBEq, Nat.reduceAdd, Nat.reduceLeDiff, Nat.reduceMul, Int.reduceLE, Int.reduceLT, Int.reduceBEq, ne6, nf6, ce5_3, ce5_4, ce5_5, ce5_6, ce5_8, ce5_9, ce5_12, ce5_13, ce5_14, ce5_15, ce5_16, row0, row1, hoo])
  refine wz_intro (toEngine_ok (by omega)) ?_
  rintro _ g8 ⟨l8, ys8, b8, rfl, o8, bl8⟩
  try simp only [hn_push, hn_up] at bl8
  have nn8 := l8.n
  try simp only [hn_push, hn_up] at nn8
  have LL8 : g7.le g8 := H2.le.trans (by repeat (first | exact H2.le.refl _ | apply le_push | refine le_up ?_ (by assumption))) l8
  have ln8 := LL8.n
  replace o5_3 := o5_3.keep LL8 (bl5_3.wide (Nat.le_refl _) (by omega))
  replace o5_4 := o5_4.keep LL8 (bl5_4.wide (Nat.le_refl _) (by omega))
  replace o5_5 := o5_5.keep LL8 (bl5_5.wide (Nat.le_refl _) (by omega))
  replace o5_6 := o5_6.keep LL8 (bl5_6.wide (Nat.le_refl _) (by omega))
  replace o5_8 := o5_8.keep LL8 (bl5_8.wide (Nat.le_refl _) (by omega))
  replace o5_9 := o5_9.keep LL8 (bl5_9.wide (Nat.le_refl _) (by omega))
  replace o5_12 := o5_12.keep LL8 (bl5_12.wide (Nat.le_refl _) (by omega))
  replace o5_13 := o5_13.keep LL8 (bl5_13.wide (Nat.le_refl _) (by omega))
  replace o5_14 := o5_14.keep LL8 (bl5_14.wide (Nat.le_refl _) (by omega))
  replace o5_15 := o5_15.keep LL8 (bl5_15.wide (Nat.le_refl _) (by omega))
  replace o5_16 := o5_16.keep LL8 (bl5_16.wide (Nat.le_refl _) (by omega))
  replace row0 := (LL8.2 (hn h .mk) (by omega)).trans row0
  replace row1 := (LL8.2 (hn g5 .mk) (by omega)).trans row1
  obtain ⟨b8_3, s8_3, b8_4, s8_4, b8_5, s8_5, b8_6, s8_6, b8_8, s8_8, b8_9, s8_9, b8_12, s8_12, b8_13, s8_13, b8_14, s8_14, b8_15, s8_15, b8_16, s8_16, rfl, rfl, o8_3, o8_4, o8_5, o8_6, o8_8, o8_9, o8_12, o8_13, o8_14, o8_15, o8_16⟩ := invEngine o8
  clear o8
  have bl8_3 := bl8.split.1
  have ce8_3 := OT.cell o8_3
  have bl8_4 := bl8.split.2.1.split.1
  have ce8_4 := OT.cell o8_4
  have bl8_5 := bl8.split.2.1.split.2.1.split.1
  have ce8_5 := OT.cell o8_5
  have bl8_6 := bl8.split.2.1.split.2.1.split.2.1.split.1
  have ce8_6 := OT.cell o8_6
  have bl8_8 := bl8.split.2.1.split.2.1.split.2.1.split.2.1.split.1
  have ce8_8 := OT.cell o8_8
  have bl8_9 := bl8.split.2.1.split.2.1.split.2.1.split.2.1.split.2.1.split.1
  have ce8_9 := OT.cell o8_9
  have bl8_12 := bl8.split.2.1.split.2.1.split.2.1.split.2.1.split.2.1.split.2.1.split.1
  have ce8_12 := OT.cell o8_12
  have bl8_13 := bl8.split.2.1.split.2.1.split.2.1.split.2.1.split.2.1.split.2.1.split.2.1.split.1
  have ce8_13 := OT.cell o8_13
  have bl8_14 := bl8.split.2.1.split.2.1.split.2.1.split.2.1.split.2.1.split.2.1.split.2.1.split.2.1.split.1
  have ce8_14 := OT.cell o8_14
  have bl8_15 := bl8.split.2.1.split.2.1.split.2.1.split.2.1.split.2.1.split.2.1.split.2.1.split.2.1.split.2.1.split.1
  have ce8_15 := OT.cell o8_15
  have bl8_16 := bl8.split.2.1.split.2.1.split.2.1.split.2.1.split.2.1.split.2.1.split.2.1.split.2.1.split.2.1.split.2.1
  have ce8_16 := OT.cell o8_16
  rw [kz_r]
  refine ⟨by simp -dsimp -implicitDefEqProofs only [go_sem, Nat.reduceBEq, Nat.reduceAdd, Nat.reduceLeDiff, Nat.reduceMul, Int.reduceLE, Int.reduceLT, Int.reduceBEq, ne6, nf6, ce5_3, ce5_4, ce5_5, ce5_6, ce5_8, ce5_9, ce5_12, ce5_13, ce5_14, ce5_15, ce5_16, ce8_3, ce8_4, ce8_5, ce8_6, ce8_8, ce8_9, ce8_12, ce8_13, ce8_14, ce8_15, ce8_16, row0, row1, hoo], ?_⟩
  repeat (first | rw [kz_o] | rw [kz_r0] | simp -dsimp -implicitDefEqProofs only [go_sem, Nat.reduceBEq, Nat.reduceAdd, Nat.reduceLeDiff, Nat.reduceMul, Int.reduceLE, Int.reduceLT, Int.reduceBEq, ne6, nf6, ce5_3, ce5_4, ce5_5, ce5_6, ce5_8, ce5_9, ce5_12, ce5_13, ce5_14, ce5_15, ce5_16, ce8_3, ce8_4, ce8_5, ce8_6, ce8_8, ce8_9, ce8_12, ce8_13, ce8_14, ce8_15, ce8_16, row0, row1, hoo])
  refine pw_intro (eqEngine_tree (outEngine (c := e) (o5_3.keep (by repeat (first | exact H2.le.refl _ | apply le_push | refine le_up ?_ (by assumption))) (bl5_3.wide (Nat.le_refl _) (by omega))) (o5_4.keep (by repeat (first | exact H2.le.refl _ | apply le_push | refine le_up ?_ (by assumption))) (bl5_4.wide (Nat.le_refl _) (by omega))) (o5_5.keep (by repeat (first | exact H2.le.refl _ | apply le_push | refine le_up ?_ (by assumption))) (bl5_5.wide (Nat.le_refl _) (by omega))) (o5_6.keep (by repeat (first | exact H2.le.refl _ | apply le_push | refine le_up ?_ (by assumption))) (bl5_6.wide (Nat.le_refl _) (by omega))) (o5_8.keep (by repeat (first | exact H2.le.refl _ | apply le_push | refine le_up ?_ (by assumption))) (bl5_8.wide (Nat.le_refl _) (by omega))) (o5_9.keep (by repeat (first | exact H2.le.refl _ | apply le_push | refine le_up ?_ (by assumption))) (bl5_9.wide (Nat.le_refl _) (by omega))) (o5_12.keep (by repeat (first | exact H2.le.refl _ | apply le_push | refine le_up ?_ (by assumption))) (bl5_12.wide (Nat.le_refl _) (by omega))) (o5_13.keep (by repeat (first | exact H2.le.refl _ | apply le_push | refine le_up ?_ (by assumption))) (bl5_13.wide (Nat.le_refl _) (by omega))) (o5_14.keep (by repeat (first | exact H2.le.refl _ | apply le_push | refine le_up ?_ (by assumption))) (bl5_14.wide (Nat.le_refl _) (by omega))) (o5_15.keep (by repeat (first | exact H2.le.refl _ | apply le_push | refine le_up ?_ (by assumption))) (bl5_15.wide (Nat.le_refl _) (by omega))) (o5_16.keep (by repeat (first | exact H2.le.refl _ | apply le_push | refine le_up ?_ (by assumption))) (bl5_16.wide (Nat.le_refl _) (by omega)))) (outEngine (c := e) (o8_3.keep (by repeat (first | exact H2.le.refl _ | apply le_push | refine le_up ?_ (by assumption))) (bl8_3.wide (Nat.le_refl _) (by omega))) (o8_4.keep (by repeat (first | exact H2.le.refl _ | apply le_push | refine le_up ?_ (by assumption))) (bl8_4.wide (Nat.le_refl _) (by omega))) (o8_5.keep (by repeat (first | exact H2.le.refl _ | apply le_push | refine le_up ?_ (by assumption))) (bl8_5.wide (Nat.le_refl _) (by omega))) (o8_6.keep (by repeat (first | exact H2.le.refl _ | apply le_push | refine le_up ?_ (by assumption))) (bl8_6.wide (Nat.le_refl _) (by omega))) (o8_8.keep (by repeat (first | exact H2.le.refl _ | apply le_push | refine le_up ?_ (by assumption))) (bl8_8.wide (Nat.le_refl _) (by omega))) (o8_9.keep (by repeat (first | exact H2.le.refl _ | apply le_push | refine le_up ?_ (by assumption))) (bl8_9.wide (Nat.le_refl _) (by omega))) (o8_12.keep (by repeat (first | exact H2.le.refl _ | apply le_push | refine le_up ?_ (by assumption))) (bl8_12.wide (Nat.le_refl _) (by omega))) (o8_13.keep (by repeat (first | exact H2.le.refl _ | apply le_push | refine le_up ?_ (by assumption))) (bl8_13.wide (Nat.le_refl _) (by omega))) (o8_14.keep (by repeat (first | exact H2.le.refl _ | apply le_push | refine le_up ?_ (by assumption))) (bl8_14.wide (Nat.le_refl _) (by omega))) (o8_15.keep (by repeat (first | exact H2.le.refl _ | apply le_push | refine le_up ?_ (by assumption))) (bl8_15.wide (Nat.le_refl _) (by omega))) (o8_16.keep (by repeat (first | exact H2.le.refl _ | apply le_push | refine le_up ?_ (by assumption))) (bl8_16.wide (Nat.le_refl _) (by omega)))) hf0) ?_
  rintro _ n9 hn9 rfl
  have hm9 := hn9
  try simp only [hn_push, hn_up] at hm9
  repeat (first | rw [kz_o] | rw [kz_r0] | simp -dsimp -implicitDefEqProofs only [go_sem, Nat.reduceBEq, Nat.reduceAdd, Nat.reduceLeDiff, Nat.reduceMul, Int.reduceLE, Int.reduceLT, Int.reduceBEq, ne6, nf6, ce5_3, ce5_4, ce5_5, ce5_6, ce5_8, ce5_9, ce5_12, ce5_13, ce5_14, ce5_15, ce5_16, row0, row1, hoo])
  rfl
end Go.Bi
end
