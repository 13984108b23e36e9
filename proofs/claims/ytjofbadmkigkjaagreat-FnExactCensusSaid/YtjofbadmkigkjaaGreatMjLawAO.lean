/- Own lemmas that the theorem of this claim needs: the abstract machine and walks of functions. -/
import Derived.Test.YtjofbadmkigkjaaGreatMjLawAA
import Derived.Test.YtjofbadmkigkjaaGreatMjLawAB
import Derived.Test.YtjofbadmkigkjaaGreatMjLawAC
import Derived.Test.YtjofbadmkigkjaaGreatMjLawAD
import Derived.Test.YtjofbadmkigkjaaGreatMjLawAE
import Derived.Test.YtjofbadmkigkjaaGreatMjLawAF
import Derived.Test.YtjofbadmkigkjaaGreatMjLawAG
import Derived.Test.YtjofbadmkigkjaaGreatMjLawAH
import Derived.Test.YtjofbadmkigkjaaGreatMjLawAI
import Derived.Test.YtjofbadmkigkjaaGreatMjLawAJ
import Derived.Test.YtjofbadmkigkjaaGreatMjLawAK
import Derived.Test.YtjofbadmkigkjaaGreatMjLawAL
import Derived.Test.YtjofbadmkigkjaaGreatMjLawAM
import Derived.Test.YtjofbadmkigkjaaGreatMjLawAN
section
set_option linter.unusedSimpArgs false
set_option linter.unusedVariables false
set_option maxRecDepth 20000
namespace Go.Bi
open Go.Proofs
open Go.Ai (wrap_i64 Heap)
variable {W0 : World} {P : Program}
set_option maxHeartbeats 4000000
theorem implModel_ok {F : Nat → Adr} {m : LModel} {g : H2} (hs : smallMod m) : PW Tryz.prog W0 48 [.st (xModel F m)] g (fun y => y = .raw (.bool (modelB m))) := by
  obtain ⟨s1, s2, s3, s4, s5, s6, s7, s8⟩ := hs
  refine PW.scalar ?_
  refine start (P := Tryz.prog) [[0], [1], [], [1], [], [1], [], [1]] (by kernel_rfl) Tryz.func48 rfl (by decide) (by decide +kernel) (rs := [.tmp 2]) rfl rfl (Nat.le_of_ble_eq_true rfl) ?_
  intro wf
  repeat (first | rw [kz_o] | rw [kz_r0] | simp -dsimp -implicitDefEqProofs only [go_sem, Nat.reduceBEq, Nat.reduceAdd, Nat.reduceLeDiff, Nat.reduceMul, Int.reduceLE, Int.reduceLT, Int.reduceBEq, hoo])
  refine dq_intro [(0, []), (1, []), (2, []), (3, []), (4, []), (5, []), (6, []), (7, []), (8, []), (9, []), (10, []), (11, []), (12, []), (13, []), (14, []), (15, []), (16, []), (17, []), (18, []), (19, []), (20, []), (21, [18]), (22, []), (23, []), (24, []), (25, []), (26, []), (27, []), (28, []), (29, []), (30, [])] (by kernel_rfl) ?_
  repeat (first | rw [kz_o] | rw [kz_r0] | simp -dsimp -implicitDefEqProofs only [go_sem, Nat.reduceBEq, Nat.reduceAdd, Nat.reduceLeDiff, Nat.reduceMul, Int.reduceLE, Int.reduceLT, Int.reduceBEq, hoo])
  refine wz_intro isWidth_ok ?_
  rintro _ _ ⟨rfl, rfl⟩
  cases h1 : widthB m.dim
  · repeat (first | rw [kz_o] | rw [kz_r0] | simp -dsimp -implicitDefEqProofs only [go_sem, Nat.reduceBEq, Nat.reduceAdd, Nat.reduceLeDiff, Nat.reduceMul, Int.reduceLE, Int.reduceLT, Int.reduceBEq, hoo])
    exact ⟨le_push (H2.le.refl _), ⟨_, rfl⟩, by rw [modelB, h1]; rfl⟩
  repeat (first | rw [kz_o] | rw [kz_r0] | simp -dsimp -implicitDefEqProofs only [go_sem, Nat.reduceBEq, Nat.reduceAdd, Nat.reduceLeDiff, Nat.reduceMul, Int.reduceLE, Int.reduceLT, Int.reduceBEq, hoo])
  refine wz_intro in_ok ?_
  rintro _ _ ⟨rfl, rfl⟩
  cases h2 : inI m.heads 1 2
  · repeat (first | rw [kz_o] | rw [kz_r0] | simp -dsimp -implicitDefEqProofs only [go_sem, Nat.reduceBEq, Nat.reduceAdd, Nat.reduceLeDiff, Nat.reduceMul, Int.reduceLE, Int.reduceLT, Int.reduceBEq, hoo])
    exact ⟨le_push (H2.le.refl _), ⟨_, rfl⟩, by rw [modelB, h1, h2]; rfl⟩
  repeat (first | rw [kz_o] | rw [kz_r0] | simp -dsimp -implicitDefEqProofs only [go_sem, Nat.reduceBEq, Nat.reduceAdd, Nat.reduceLeDiff, Nat.reduceMul, Int.reduceLE, Int.reduceLT, Int.reduceBEq, hoo])
  refine pw_intro (implMergesOk_ok s1) ?_
  rintro _ n1 hn1 rfl
  first | (rw [kz_r]; refine ⟨by simp -dsimp -implicitDefEqProofs only [go_sem, Nat.reduceBEq, Nat.reduceAdd, Nat.reduceLeDiff, Nat.reduceMul, Int.reduceLE, Int.reduceLT, Int.reduceBEq, hoo], ?_⟩) | skip
  cases h3 : mergesB m.merges
  · repeat (first | rw [kz_o] | rw [kz_r0] | simp -dsimp -implicitDefEqProofs only [go_sem, Nat.reduceBEq, Nat.reduceAdd, Nat.reduceLeDiff, Nat.reduceMul, Int.reduceLE, Int.reduceLT, Int.reduceBEq, hoo])
    exact ⟨by repeat (first | exact H2.le.refl _ | apply le_push | refine le_up ?_ (by first | assumption | (simp only [hn_up, hn_push] at *; omega))), ⟨_, rfl⟩, by rw [modelB, h1, h2, h3]; rfl⟩
  repeat (first | rw [kz_o] | rw [kz_r0] | simp -dsimp -implicitDefEqProofs only [go_sem, Nat.reduceBEq, Nat.reduceAdd, Nat.reduceLeDiff, Nat.reduceMul, Int.reduceLE, Int.reduceLT, Int.reduceBEq, hoo])
  refine pw_intro (voc1_ok (F := F) (m := m) s1) ?_
  rintro _ n2 hn2 rfl
  first | (rw [kz_r]; refine ⟨by simp -dsimp -implicitDefEqProofs only [go_sem, Nat.reduceBEq, Nat.reduceAdd, Nat.reduceLeDiff, Nat.reduceMul, Int.reduceLE, Int.reduceLT, Int.reduceBEq, hoo], ?_⟩) | skip
  by_cases h4 : (m.embed.length : Int) = vocI m
  rotate_left
  · have e4 : decide (¬ (m.embed.length : Int) = vocI m) = true := decide_eq_true h4
    repeat (first | rw [kz_o] | rw [kz_r0] | simp -dsimp -implicitDefEqProofs only [go_sem, Nat.reduceBEq, Nat.reduceAdd, Nat.reduceLeDiff, Nat.reduceMul, Int.reduceLE, Int.reduceLT, Int.reduceBEq, hoo, e4])
    exact ⟨by repeat (first | exact H2.le.refl _ | apply le_push | refine le_up ?_ (by first | assumption | (simp only [hn_up, hn_push] at *; omega))), ⟨_, rfl⟩, by rw [modelB, h1, h2, h3, decide_eq_false h4]; rfl⟩
  have e4 : decide (¬ (m.embed.length : Int) = vocI m) = false := decide_eq_false (fun h => h h4)
  repeat (first | rw [kz_o] | rw [kz_r0] | simp -dsimp -implicitDefEqProofs only [go_sem, Nat.reduceBEq, Nat.reduceAdd, Nat.reduceLeDiff, Nat.reduceMul, Int.reduceLE, Int.reduceLT, Int.reduceBEq, hoo, e4])
  refine wz_intro in_ok ?_
  rintro _ _ ⟨rfl, rfl⟩
  first | (rw [kz_r]; refine ⟨by simp -dsimp -implicitDefEqProofs only [go_sem, Nat.reduceBEq, Nat.reduceAdd, Nat.reduceLeDiff, Nat.reduceMul, Int.reduceLE, Int.reduceLT, Int.reduceBEq, hoo], ?_⟩) | skip
  cases h5 : inI m.layers.length 1 2
  · repeat (first | rw [kz_o] | rw [kz_r0] | simp -dsimp -implicitDefEqProofs only [go_sem, Nat.reduceBEq, Nat.reduceAdd, Nat.reduceLeDiff, Nat.reduceMul, Int.reduceLE, Int.reduceLT, Int.reduceBEq, hoo])
    exact ⟨by repeat (first | exact H2.le.refl _ | apply le_push | refine le_up ?_ (by first | assumption | (simp only [hn_up, hn_push] at *; omega))), ⟨_, rfl⟩, by rw [modelB, h1, h2, h3, decide_eq_true h4, h5]; rfl⟩
  repeat (first | rw [kz_o] | rw [kz_r0] | simp -dsimp -implicitDefEqProofs only [go_sem, Nat.reduceBEq, Nat.reduceAdd, Nat.reduceLeDiff, Nat.reduceMul, Int.reduceLE, Int.reduceLT, Int.reduceBEq, hoo])
  simp only [hn_up, hn_push] at hn1 hn2
  refine pw_intro (containsR_ok (F := 125) (p := fun r => !embB m.dim r) (caps := [.pointer (some ⟨hn g .mk, 0, none⟩)]) s2.1 fun i hi f' h' hle => ?_) ?_
  · exact emb1_ok ((hle.2 (hn g .mk) (by simp only [hn_up, hn_push]; omega)).trans (by simp -dsimp -implicitDefEqProofs only [go_sem, Nat.reduceBEq, Nat.reduceAdd, Nat.reduceLeDiff, Nat.reduceMul, Int.reduceLE, Int.reduceLT, Int.reduceBEq, hoo] <;> rfl)) (smallL_at s2 i)
  rintro _ n3 hn3 rfl
  simp only [hn_up, hn_push] at hn3
  cases h6 : m.embed.any fun r => !embB m.dim r
  rotate_left
  · repeat (first | rw [kz_o] | rw [kz_r0] | simp -dsimp -implicitDefEqProofs only [go_sem, Nat.reduceBEq, Nat.reduceAdd, Nat.reduceLeDiff, Nat.reduceMul, Int.reduceLE, Int.reduceLT, Int.reduceBEq, hoo])
    exact ⟨by repeat (first | exact H2.le.refl _ | apply le_push | refine le_up ?_ (by first | assumption | (simp only [hn_up, hn_push] at *; omega))), ⟨_, rfl⟩, by rw [modelB, h1, h2, h3, decide_eq_true h4, h5, h6]; rfl⟩
  repeat (first | rw [kz_o] | rw [kz_r0] | simp -dsimp -implicitDefEqProofs only [go_sem, Nat.reduceBEq, Nat.reduceAdd, Nat.reduceLeDiff, Nat.reduceMul, Int.reduceLE, Int.reduceLT, Int.reduceBEq, hoo])
  refine pw_intro (containsY_ok (F := 127) (p := fun l => !layB l m.dim) (caps := [.pointer (some ⟨hn g .mk, 0, none⟩)]) s3 fun i hi F' h' hle => ?_) ?_
  · refine lay1_ok ?_ ((hle.2 (hn g .mk) (by simp only [hn_up, hn_push]; omega)).trans (by simp -dsimp -implicitDefEqProofs only [go_sem, Nat.reduceBEq, Nat.reduceAdd, Nat.reduceLeDiff, Nat.reduceMul, Int.reduceLE, Int.reduceLT, Int.reduceBEq, hoo] <;> rfl)) (s4 i hi)
    have := hle.1
    simp only [hn_up, hn_push] at this; omega
  rintro _ n4 hn4 rfl
  simp only [hn_up, hn_push] at hn4
  cases h7 : m.layers.any fun l => !layB l m.dim
  rotate_left
  · repeat (first | rw [kz_o] | rw [kz_r0] | simp -dsimp -implicitDefEqProofs only [go_sem, Nat.reduceBEq, Nat.reduceAdd, Nat.reduceLeDiff, Nat.reduceMul, Int.reduceLE, Int.reduceLT, Int.reduceBEq, hoo])
    exact ⟨by repeat (first | exact H2.le.refl _ | apply le_push | refine le_up ?_ (by first | assumption | (simp only [hn_up, hn_push] at *; omega))), ⟨_, rfl⟩, by rw [modelB, h1, h2, h3, decide_eq_true h4, h5, h6, h7]; rfl⟩
  repeat (first | rw [kz_o] | rw [kz_r0] | simp -dsimp -implicitDefEqProofs only [go_sem, Nat.reduceBEq, Nat.reduceAdd, Nat.reduceLeDiff, Nat.reduceMul, Int.reduceLE, Int.reduceLT, Int.reduceBEq, hoo])
  refine dq_intro [(0, []), (1, []), (2, []), (3, []), (4, []), (5, []), (6, []), (7, []), (8, []), (9, []), (10, []), (11, [7, 9]), (12, []), (13, []), (14, []), (15, []), (16, []), (17, []), (18, []), (19, []), (20, []), (21, []), (22, []), (23, []), (24, []), (25, []), (26, []), (27, [])] (by kernel_rfl) ?_
  repeat (first | rw [kz_o] | rw [kz_r0] | simp -dsimp -implicitDefEqProofs only [go_sem, Nat.reduceBEq, Nat.reduceAdd, Nat.reduceLeDiff, Nat.reduceMul, Int.reduceLE, Int.reduceLT, Int.reduceBEq, hoo])
  refine pw_intro (implGain_ok s5) ?_
  rintro _ n5 hn5 rfl
  simp only [hn_up, hn_push] at hn5
  first | (rw [kz_r]; refine ⟨by simp -dsimp -implicitDefEqProofs only [go_sem, Nat.reduceBEq, Nat.reduceAdd, Nat.reduceLeDiff, Nat.reduceMul, Int.reduceLE, Int.reduceLT, Int.reduceBEq, hoo], ?_⟩) | skip
  cases h8 : gainB m.gainEnd m.dim
  · repeat (first | rw [kz_o] | rw [kz_r0] | simp -dsimp -implicitDefEqProofs only [go_sem, Nat.reduceBEq, Nat.reduceAdd, Nat.reduceLeDiff, Nat.reduceMul, Int.reduceLE, Int.reduceLT, Int.reduceBEq, hoo])
    exact ⟨by repeat (first | exact H2.le.refl _ | apply le_push | refine le_up ?_ (by first | assumption | (simp only [hn_up, hn_push] at *; omega))), ⟨_, rfl⟩, by rw [modelB, h1, h2, h3, decide_eq_true h4, h5, h6, h7, h8]; rfl⟩
  repeat (first | rw [kz_o] | rw [kz_r0] | simp -dsimp -implicitDefEqProofs only [go_sem, Nat.reduceBEq, Nat.reduceAdd, Nat.reduceLeDiff, Nat.reduceMul, Int.reduceLE, Int.reduceLT, Int.reduceBEq, hoo])
  refine pw_intro (voc1_ok (F := F) (m := m) s1) ?_
  rintro _ n6 hn6 rfl
  simp only [hn_up, hn_push] at hn6
  first | (rw [kz_r]; refine ⟨by simp -dsimp -implicitDefEqProofs only [go_sem, Nat.reduceBEq, Nat.reduceAdd, Nat.reduceLeDiff, Nat.reduceMul, Int.reduceLE, Int.reduceLT, Int.reduceBEq, hoo], ?_⟩) | skip
  repeat (first | rw [kz_o] | rw [kz_r0] | simp -dsimp -implicitDefEqProofs only [go_sem, Nat.reduceBEq, Nat.reduceAdd, Nat.reduceLeDiff, Nat.reduceMul, Int.reduceLE, Int.reduceLT, Int.reduceBEq, hoo])
  refine pw_intro (implWithin_ok (F := fun j => F (j + 7)) (m := m.head) s6) ?_
  rintro _ n7 hn7 rfl
  simp only [hn_up, hn_push] at hn7
  first | (rw [kz_r]; refine ⟨by simp -dsimp -implicitDefEqProofs only [go_sem, Nat.reduceBEq, Nat.reduceAdd, Nat.reduceLeDiff, Nat.reduceMul, Int.reduceLE, Int.reduceLT, Int.reduceBEq, hoo], ?_⟩) | skip
  cases h9 : withB m.head m.dim (vocI m)
  · repeat (first | rw [kz_o] | rw [kz_r0] | simp -dsimp -implicitDefEqProofs only [go_sem, Nat.reduceBEq, Nat.reduceAdd, Nat.reduceLeDiff, Nat.reduceMul, Int.reduceLE, Int.reduceLT, Int.reduceBEq, hoo])
    exact ⟨by repeat (first | exact H2.le.refl _ | apply le_push | refine le_up ?_ (by first | assumption | (simp only [hn_up, hn_push] at *; omega))), ⟨_, rfl⟩, by rw [modelB, h1, h2, h3, decide_eq_true h4, h5, h6, h7, h8, h9]; rfl⟩
  have hw := width_rng h1
  have hh : m.heads = 1 ∨ m.heads = 2 := by have := inI_tt h2; omega
  have z0 : (m.heads == 0) = false := by simp; omega
  have w1 : IntKind.i64.wrap (Int.tdiv m.dim m.heads) = Int.tdiv m.dim m.heads := by
    rcases hw with hw | hw <;> rcases hh with hh | hh <;> rw [hw, hh] <;> decide
  have w2 : IntKind.i64.wrap (Int.tdiv (Int.tdiv m.dim m.heads) 2) = Int.tdiv (Int.tdiv m.dim m.heads) 2 := by
    rcases hw with hw | hw <;> rcases hh with hh | hh <;> rw [hw, hh] <;> decide
  repeat (first | rw [kz_o] | rw [kz_r0] | simp -dsimp -implicitDefEqProofs only [go_sem, Nat.reduceBEq, Nat.reduceAdd, Nat.reduceLeDiff, Nat.reduceMul, Int.reduceLE, Int.reduceLT, Int.reduceBEq, hoo, z0, w1, w2])
  refine pw_intro (implTurns_ok (F := fun j => F (j + 12)) (t := m.turns) s7 s8) ?_
  rintro _ n8 hn8 rfl
  simp only [hn_up, hn_push] at hn8
  first | (rw [kz_r]; refine ⟨by simp -dsimp -implicitDefEqProofs only [go_sem, Nat.reduceBEq, Nat.reduceAdd, Nat.reduceLeDiff, Nat.reduceMul, Int.reduceLE, Int.reduceLT, Int.reduceBEq, hoo], ?_⟩) | skip
  repeat (first | rw [kz_o] | rw [kz_r0] | simp -dsimp -implicitDefEqProofs only [go_sem, Nat.reduceBEq, Nat.reduceAdd, Nat.reduceLeDiff, Nat.reduceMul, Int.reduceLE, Int.reduceLT, Int.reduceBEq, hoo])
  exact ⟨by repeat (first | exact H2.le.refl _ | apply le_push | refine le_up ?_ (by first | assumption | (simp only [hn_up, hn_push] at *; omega))), ⟨_, rfl⟩, by rw [modelB, h1, h2, h3, decide_eq_true h4, h5, h6, h7, h8, h9]; rfl⟩
end Go.Bi
end
section
set_option linter.unusedSimpArgs false
set_option linter.unusedVariables false
set_option maxRecDepth 20000
namespace Go.Bi
open Go.Proofs
open Go.Ai (wrap_i64 Heap)
variable {W0 : World} {P : Program}
set_option maxHeartbeats 4000000
theorem get_W {l : List Int} {i : Nat} (h : i < l.length) : (l.map cI)[i]? = some (.raw (.int .i64 (l.getD i default))) := by
  rw [List.getElem?_map, List.getElem?_eq_getElem h, List.getD_eq_getElem?_getD, List.getElem?_eq_getElem h]; rfl
theorem wrt_W {l : List Int} {i : Nat} {v : Int} (h : i < l.length) : wrtL (l.map cI) i [.raw (.int .i64 v)] = some ((l.set i v).map cI) := by
  rw [wrt_set (by simpa using h), List.map_set]; rfl
theorem zeros_I {n : Nat} : (Go.Ai.repL n [.int .i64 0]).map X.raw = (List.replicate n (0 : Int)).map cI := by
  rw [Go.Ai.rep_one]; simp [cI]
theorem pw_same {f : FuncId} {xs : List X} {g : H2} {Q : X → Prop} (c : WC2 P W0 f xs g fun v g' => Q v ∧ g' = g) : PW P W0 f xs g Q :=
  WC2.mono c fun y g' ⟨h1, h2⟩ => by subst h2; exact ⟨rfl, Nat.le_refl _, h1⟩
theorem equalO_ok {f : Adr} {b n : Nat} {w l : List Int} {g : H2} (hb : hg g b .mk = some ⟨1, w.map cI⟩) (hn : w.length = n) (hl : n ≤ 1048576) : PW Tryz.prog W0 56 [.raw (.slice (some ⟨b, 0, none⟩) n n), .sl f 1 (ints l)] g (fun v => v = .raw (.bool (decide (w = l)))) := by
  subst hn
  have hf : ∃ f, Lent g (.raw (.slice (some ⟨b, 0, none⟩) w.length w.length)) (.sl f 1 (ints w)) := by
    have h2 : Lent g (.raw (.slice (some ⟨b, 0, none⟩) w.length w.length)) (.sl (litA b w.length 1 (w.map cI)) 1 (chunk 1 w.length (w.map fun n => T.v (.int .i64 n)))) :=
      Fz.own (cs' := w.map cI) hb trivial (by simp) rfl (fun i hi hi' => by rw [List.getElem_map]; exact .raw) toTs_ints
    rw [chunk_ints] at h2
    exact ⟨_, h2⟩
  obtain ⟨f1, hf⟩ := hf
  exact PW.lend (.cons hf (.cons (.sl (.sl (allT_true _ _))) .nil)) (pw_same (equalZ_ok (l' := l) hl)) (fun y h => by rw [h]; exact .raw)
theorem wants_in' {n i : Nat} {rs : List LRequest} (h : ∀ j, j < i → (rs.getD j default).table.pages.length ≤ 16) (hi : i ≤ rs.length) : inB (16 * i) (wantsL n (rs.take i)) := by
  have := wants_in (n := n) (rs := rs.take i) (fun j hj => by
    rw [List.length_take] at hj
    have h2 := h j (by omega)
    rwa [List.getD_eq_getElem?_getD, List.getElem?_take_of_lt (by omega), ← List.getD_eq_getElem?_getD]) i (by rw [List.length_take]; omega)
  rwa [List.take_take, Nat.min_self] at this
theorem implEngine_ok {F : Nat → Adr} {e : LEngine} {g : H2} (hs : smallEng e) : PW Tryz.prog W0 15 [.st (xEngine F e)] g (fun y => y = .raw (.bool (engB e))) := by
  obtain ⟨s1, s2, s3, s4, s5⟩ := id hs
  refine PW.scalar ?_
  refine start (P := Tryz.prog) [[0], [1], [], [1], [1, 3], [1, 3, 30, 31, 32], [1, 3, 30, 31, 32], [1, 3, 5, 30, 31, 32], [], [1, 3, 5, 30, 31, 32], [1, 3, 30, 31, 32, 42, 43, 44], [1, 3, 30, 31, 32, 42, 43, 44], [1, 3, 7, 30, 31, 32, 42, 43, 44], [1, 3, 30, 31, 32, 42, 43, 44], [1, 3, 30, 31, 32], [1, 3]] (by kernel_rfl) Tryz.func15 rfl (by decide) (by decide +kernel) (rs := [.tmp 2]) rfl rfl (Nat.le_of_ble_eq_true rfl) ?_
  intro wf
  repeat (first | rw [kz_o] | rw [kz_r0] | simp -dsimp -implicitDefEqProofs only [go_sem, Nat.reduceBEq, Nat.reduceAdd, Nat.reduceLeDiff, Nat.reduceMul, Int.reduceLE, Int.reduceLT, Int.reduceBEq, hoo])
  refine pw_intro (implModel_ok (F := F) (m := e.model) s1) ?_
  rintro _ n1 hn1 rfl
  simp only [hn_push] at hn1
  first | (rw [kz_r]; refine ⟨by simp -dsimp -implicitDefEqProofs only [go_sem, Nat.reduceBEq, Nat.reduceAdd, Nat.reduceLeDiff, Nat.reduceMul, Int.reduceLE, Int.reduceLT, Int.reduceBEq, hoo], ?_⟩) | skip
  cases h1 : modelB e.model
  · repeat (first | rw [kz_o] | rw [kz_r0] | simp -dsimp -implicitDefEqProofs only [go_sem, Nat.reduceBEq, Nat.reduceAdd, Nat.reduceLeDiff, Nat.reduceMul, Int.reduceLE, Int.reduceLT, Int.reduceBEq, hoo])
    exact ⟨by repeat (first | exact H2.le.refl _ | assumption | apply le_push | refine le_up ?_ (by first | assumption | (simp only [hn_up, hn_push] at *; omega))), ⟨_, rfl⟩, by rw [engB, h1]; rfl⟩
  repeat (first | rw [kz_o] | rw [kz_r0] | simp -dsimp -implicitDefEqProofs only [go_sem, Nat.reduceBEq, Nat.reduceAdd, Nat.reduceLeDiff, Nat.reduceMul, Int.reduceLE, Int.reduceLT, Int.reduceBEq, hoo])
  refine pw_intro (implStore_ok (F := fun j => F (j + 14)) (s := e.store) s2) ?_
  rintro _ n2 hn2 rfl
  simp only [hn_push, hn_up] at hn2
  first | (rw [kz_r]; refine ⟨by simp -dsimp -implicitDefEqProofs only [go_sem, Nat.reduceBEq, Nat.reduceAdd, Nat.reduceLeDiff, Nat.reduceMul, Int.reduceLE, Int.reduceLT, Int.reduceBEq, hoo], ?_⟩) | skip
  cases h2 : storeB e.store
  · repeat (first | rw [kz_o] | rw [kz_r0] | simp -dsimp -implicitDefEqProofs only [go_sem, Nat.reduceBEq, Nat.reduceAdd, Nat.reduceLeDiff, Nat.reduceMul, Int.reduceLE, Int.reduceLT, Int.reduceBEq, hoo])
    exact ⟨by repeat (first | exact H2.le.refl _ | assumption | apply le_push | refine le_up ?_ (by first | assumption | (simp only [hn_up, hn_push] at *; omega))), ⟨_, rfl⟩, by rw [engB, h1, h2]; rfl⟩
  by_cases h3 : (e.requests.length : Int) > 10
  · repeat (first | rw [kz_o] | rw [kz_r0] | simp -dsimp -implicitDefEqProofs only [go_sem, Nat.reduceBEq, Nat.reduceAdd, Nat.reduceLeDiff, Nat.reduceMul, Int.reduceLE, Int.reduceLT, Int.reduceBEq, hoo, h3])
    exact ⟨by repeat (first | exact H2.le.refl _ | assumption | apply le_push | refine le_up ?_ (by first | assumption | (simp only [hn_up, hn_push] at *; omega))), ⟨_, rfl⟩, by rw [engB, h1, h2, decide_eq_false (by omega)]; rfl⟩
  obtain ⟨hpl, hrl⟩ := storeB_len h2
  have hB : engB e = (e.requests.all (reqB e) && decide (wantsL e.store.refs.length e.requests = e.store.refs)) := by rw [engB, h1, h2, decide_eq_true (by omega)]; rfl
  repeat (first | rw [kz_o] | rw [kz_r0] | simp -dsimp -implicitDefEqProofs only [go_sem, Nat.reduceBEq, Nat.reduceAdd, Nat.reduceLeDiff, Nat.reduceMul, Int.reduceLE, Int.reduceLT, Int.reduceBEq, hoo, h3])
  refine make_intro Ai.ty_el27 Ai.ty_zr3 (by decide) ⟨by omega, by simp only [Int.toNat_natCast]; have : Ai.most = 1099511627776 := rfl; omega⟩ ?_
  simp only [hn_push, hn_up, Int.toNat_natCast]
  have hne0 : (hn g .mk == n2) = false := by simp; omega
  repeat (first | rw [kz_o] | rw [kz_r0] | simp -dsimp -implicitDefEqProofs only [go_sem, Nat.reduceBEq, Nat.reduceAdd, Nat.reduceLeDiff, Nat.reduceMul, Int.reduceLE, Int.reduceLT, Int.reduceBEq, hoo, hne0])
  refine lz_keep [1, 3, 30, 31] (fun mm s h' => ∃ (i : Nat), g.le h' ∧ n2 + 1 ≤ hn h' .mk ∧ hg h' (hn g .mk) .mk = some ⟨17, [.raw (.int .i64 e.model.dim), .raw (.int .i64 e.model.heads), .raw (.int .i64 e.model.context), .sl (F 3) 2 (rMergeS e.model.merges), .sl (F 4) 1 (rIntSS e.model.embed), .sl (F 5) 32 (rLayerS e.model.layers), .sl (F 6) 1 (ints e.model.gainEnd), .raw (.int .i64 e.model.head.width), .sl (F 8) 1 (rIntSS e.model.head.rows), .sl (F 9) 1 (rIntSS e.model.head.scales), .raw (.int .i64 e.model.head.mul), .raw (.int .i64 e.model.head.shift), .sl (F 12) 1 (rIntSS e.model.turns.cos), .sl (F 13) 1 (rIntSS e.model.turns.sin), .sl (F 14) 1 (ints e.store.refs), .sl (F 15) 1 (rCellSS e.store.pages), .sl (F 16) 10 (rRequestS e.requests)]⟩ ∧ hg h' n2 .mk = some ⟨1, (wantsL e.store.refs.length (e.requests.take i)).map cI⟩ ∧ look s 32 .mk = .raw (.int .i64 (i : Nat)) ∧ mm + i = e.requests.length ∧ ∀ j, j < i → reqB e (e.requests.getD j default) = true) e.requests.length ?_ ?_
  · have hne : (hn g .mk == n2) = false := by simp; omega
    refine ⟨0, by repeat (first | exact H2.le.refl _ | assumption | apply le_push | refine le_up ?_ (by first | assumption | (simp only [hn_up, hn_push] at *; omega))), by simp only [hn_push, hn_up]; omega, by simp -dsimp -implicitDefEqProofs only [go_sem, Nat.reduceBEq, Nat.reduceAdd, Nat.reduceLeDiff, Nat.reduceMul, Int.reduceLE, Int.reduceLT, Int.reduceBEq, hoo, hne] <;> rfl, ?_, by simp -dsimp -implicitDefEqProofs only [go_sem, Nat.reduceBEq, Nat.reduceAdd, Nat.reduceLeDiff, Nat.reduceMul, Int.reduceLE, Int.reduceLT, Int.reduceBEq], by omega, fun j hj => by omega⟩
    simp -dsimp -implicitDefEqProofs only [go_sem, Nat.reduceBEq, Nat.reduceAdd, Nat.reduceLeDiff, Nat.reduceMul, Int.reduceLE, Int.reduceLT, Int.reduceBEq, hoo, zeros_I]
    rfl
  rintro mm s h' hks ⟨i, hle, hnn, ra, rw0, ei, hmm, hpre⟩
  simp -dsimp -implicitDefEqProofs only [go_sem, Nat.reduceBEq, Nat.reduceAdd, Nat.reduceLeDiff, Nat.reduceMul, Int.reduceLE, Int.reduceLT, Int.reduceBEq] at hks
  by_cases q1 : (i : Int) < (e.requests.length : Int)
  · have q2 : i < e.requests.length := by omega
    have w1 : IntKind.i64.wrap ((i : Int) + 1) = ((i + 1 : Nat) : Int) := by rw [wrap_i64] <;> omega
    have hne1 : (hn g .mk == hn h' .mk) = false := by simp; have := hle.1; omega
    repeat (first | rw [kz_o] | rw [kz_r0] | simp -dsimp -implicitDefEqProofs only [go_sem, Nat.reduceBEq, Nat.reduceAdd, Nat.reduceLeDiff, Nat.reduceMul, Int.reduceLE, Int.reduceLT, Int.reduceBEq, hks, ei, q1, q2, ra, rw0, hoo, hne1])
    refine pw_intro (implReq_ok (F := F) (F' := fun j => under (under (F 16) i) j) (r := e.requests.getD i default) h1 h2 hs (s5 i q2)) ?_
    rintro _ n3 hn3 rfl
    simp only [hn_push] at hn3
    cases h4 : reqB e (e.requests.getD i default)
    · repeat (first | rw [kz_o] | rw [kz_r0] | simp -dsimp -implicitDefEqProofs only [go_sem, Nat.reduceBEq, Nat.reduceAdd, Nat.reduceLeDiff, Nat.reduceMul, Int.reduceLE, Int.reduceLT, Int.reduceBEq, hks, ei, q1, q2, ra, rw0])
      refine ⟨le_up (le_push hle) (by rw [hn_push]; exact hn3), ⟨_, rfl⟩, ?_⟩
      rw [hB, Bool.and_eq_false_iff.2 (.inl ?_)]
      rw [List.all_eq_false]
      exact ⟨_, getD_memR q2, by rw [h4]; simp⟩
    have hwl : (wantsL e.store.refs.length (e.requests.take i)).length = e.store.refs.length := wants_len
    obtain ⟨hp16, htb⟩ := reqB_pages h4
    have hpg := (table_t htb).2.2.2
    have hne2 : (n2 == hn h' .mk) = false := by simp; omega
    repeat (first | rw [kz_o] | rw [kz_r0] | simp -dsimp -implicitDefEqProofs only [go_sem, Nat.reduceBEq, Nat.reduceAdd, Nat.reduceLeDiff, Nat.reduceMul, Int.reduceLE, Int.reduceLT, Int.reduceBEq, hks, ei, q1, q2, ra, rw0, hoo, hne1, hne2])
    refine lz_keep [1, 3, 30, 31, 32, 42, 43] (fun m2 s2 h2' => ∃ (k : Nat), g.le h2' ∧ n2 + 1 ≤ hn h2' .mk ∧ hg h2' (hn g .mk) .mk = some ⟨17, [.raw (.int .i64 e.model.dim), .raw (.int .i64 e.model.heads), .raw (.int .i64 e.model.context), .sl (F 3) 2 (rMergeS e.model.merges), .sl (F 4) 1 (rIntSS e.model.embed), .sl (F 5) 32 (rLayerS e.model.layers), .sl (F 6) 1 (ints e.model.gainEnd), .raw (.int .i64 e.model.head.width), .sl (F 8) 1 (rIntSS e.model.head.rows), .sl (F 9) 1 (rIntSS e.model.head.scales), .raw (.int .i64 e.model.head.mul), .raw (.int .i64 e.model.head.shift), .sl (F 12) 1 (rIntSS e.model.turns.cos), .sl (F 13) 1 (rIntSS e.model.turns.sin), .sl (F 14) 1 (ints e.store.refs), .sl (F 15) 1 (rCellSS e.store.pages), .sl (F 16) 10 (rRequestS e.requests)]⟩ ∧ hg h2' n2 .mk = some ⟨1, (((e.requests.getD i default).table.pages.take k).foldl bump (wantsL e.store.refs.length (e.requests.take i))).map cI⟩ ∧ look s2 44 .mk = .raw (.int .i64 (k : Nat)) ∧ m2 + k = (e.requests.getD i default).table.pages.length) (e.requests.getD i default).table.pages.length ?_ ?_
    · refine ⟨0, le_up (le_push hle) (by rw [hn_push]; exact hn3), by rw [hn_up]; omega, by simp -dsimp -implicitDefEqProofs only [go_sem, Nat.reduceBEq, Nat.reduceAdd, Nat.reduceLeDiff, Nat.reduceMul, Int.reduceLE, Int.reduceLT, Int.reduceBEq, hoo, hne1, ra] <;> rfl, by simp -dsimp -implicitDefEqProofs only [go_sem, Nat.reduceBEq, Nat.reduceAdd, Nat.reduceLeDiff, Nat.reduceMul, Int.reduceLE, Int.reduceLT, Int.reduceBEq, hoo, hne2, rw0] <;> rfl, by simp -dsimp -implicitDefEqProofs only [go_sem, Nat.reduceBEq, Nat.reduceAdd, Nat.reduceLeDiff, Nat.reduceMul, Int.reduceLE, Int.reduceLT, Int.reduceBEq], by omega⟩
    rintro m2 s2 h2' hks2 ⟨k, hle2, hnn2, rb, rv, ek, hm2⟩
    simp -dsimp -implicitDefEqProofs only [go_sem, Nat.reduceBEq, Nat.reduceAdd, Nat.reduceLeDiff, Nat.reduceMul, Int.reduceLE, Int.reduceLT, Int.reduceBEq, hks] at hks2
    have hwi : inB (16 * i) (wantsL e.store.refs.length (e.requests.take i)) := wants_in' (fun j hj => (reqB_pages (hpre j hj)).1) (by omega)
    have hwk := bumps_in (ps := (e.requests.getD i default).table.pages.take k) (B := 16 * i) (by omega) hwi
    have hvl : (((e.requests.getD i default).table.pages.take k).foldl bump (wantsL e.store.refs.length (e.requests.take i))).length = e.store.refs.length := by rw [bumps_len, hwl]
    by_cases q3 : (k : Int) < ((e.requests.getD i default).table.pages.length : Int)
    · have q4 : k < (e.requests.getD i default).table.pages.length := by omega
      have w2 : IntKind.i64.wrap ((k : Int) + 1) = ((k + 1 : Nat) : Int) := by rw [wrap_i64] <;> omega
      obtain ⟨p1, p2, p3⟩ := pgB_t (hpg k q4)
      obtain ⟨p, hp⟩ := Int.eq_ofNat_of_zero_le p1.1
      have k1 : p < e.store.refs.length := by omega
      have hsn := bumps_snoc (ps := (e.requests.getD i default).table.pages) (w := wantsL e.store.refs.length (e.requests.take i)) q4
      generalize hwdef : ((e.requests.getD i default).table.pages.take k).foldl bump (wantsL e.store.refs.length (e.requests.take i)) = w at *
      have hb := hwk p
      have hlk : (((e.requests.getD i default).table.pages.take k).length : Int) ≤ 16 := by rw [List.length_take]; omega
      have w3 : IntKind.i64.wrap (w.getD p default + 1) = w.getD p default + 1 := by rw [wrap_i64] <;> omega
      have gw := get_W (l := w) (i := p) (by omega)
      have ww := wrt_W (l := w) (i := p) (v := w.getD p default + 1) (by omega)
      have hi2 : (0 : Int) ≤ (p : Int) ∧ (p : Int) < (e.store.refs.length : Int) := by omega
      have hbump : bump w ((e.requests.getD i default).table.pages.getD k default) = w.set p (w.getD p default + 1) := by rw [hp]; rfl
      have hne3 : (hn g .mk == n2) = false := by simp; omega
      repeat (first | rw [kz_o] | rw [kz_r0] | simp -dsimp -implicitDefEqProofs only [go_sem, Nat.reduceBEq, Nat.reduceAdd, Nat.reduceLeDiff, Nat.reduceMul, Int.reduceLE, Int.reduceLT, Int.reduceBEq, hks, hks2, ek, q3, q4, rb, rv, hp, hi2, nat_nn, Int.toNat_natCast, k1, gw, ww, w3, w2, hoo])
      refine nx_keep (m2 - 1) (by omega) (by simp -dsimp -implicitDefEqProofs only [go_sem, Nat.reduceBEq, Nat.reduceAdd, Nat.reduceLeDiff, Nat.reduceMul, Int.reduceLE, Int.reduceLT, Int.reduceBEq, hks, hks2]) ⟨k + 1, le_set hle2 (by omega), by rw [hn_set]; omega, by simp -dsimp -implicitDefEqProofs only [go_sem, Nat.reduceBEq, Nat.reduceAdd, Nat.reduceLeDiff, Nat.reduceMul, Int.reduceLE, Int.reduceLT, Int.reduceBEq, hoo, hne3, rb], ?_, by simp -dsimp -implicitDefEqProofs only [go_sem, Nat.reduceBEq, Nat.reduceAdd, Nat.reduceLeDiff, Nat.reduceMul, Int.reduceLE, Int.reduceLT, Int.reduceBEq, w2], by omega⟩
      rw [hsn, hbump]
      simp -dsimp -implicitDefEqProofs only [go_sem, Nat.reduceBEq, Nat.reduceAdd, Nat.reduceLeDiff, Nat.reduceMul, Int.reduceLE, Int.reduceLT, Int.reduceBEq, hoo]
    · repeat (first | rw [kz_o] | rw [kz_r0] | simp -dsimp -implicitDefEqProofs only [go_sem, Nat.reduceBEq, Nat.reduceAdd, Nat.reduceLeDiff, Nat.reduceMul, Int.reduceLE, Int.reduceLT, Int.reduceBEq, hks, hks2, ek, q3, w1])
      have hkk : k = (e.requests.getD i default).table.pages.length := by omega
      refine nx_keep (mm - 1) (by omega) (by simp -dsimp -implicitDefEqProofs only [go_sem, Nat.reduceBEq, Nat.reduceAdd, Nat.reduceLeDiff, Nat.reduceMul, Int.reduceLE, Int.reduceLT, Int.reduceBEq, hks, hks2]) ⟨i + 1, hle2, hnn2, by simp -dsimp -implicitDefEqProofs only [go_sem, Nat.reduceBEq, Nat.reduceAdd, Nat.reduceLeDiff, Nat.reduceMul, Int.reduceLE, Int.reduceLT, Int.reduceBEq, rb], ?_, by simp -dsimp -implicitDefEqProofs only [go_sem, Nat.reduceBEq, Nat.reduceAdd, Nat.reduceLeDiff, Nat.reduceMul, Int.reduceLE, Int.reduceLT, Int.reduceBEq, w1], by omega, fun j hj => ?_⟩
      · rw [rv, hkk, List.take_length, wants_snoc q2]
      · by_cases hji : j = i
        · subst hji; exact h4
        · exact hpre j (by omega)
  repeat (first | rw [kz_o] | rw [kz_r0] | simp -dsimp -implicitDefEqProofs only [go_sem, Nat.reduceBEq, Nat.reduceAdd, Nat.reduceLeDiff, Nat.reduceMul, Int.reduceLE, Int.reduceLT, Int.reduceBEq, hks, ei, q1, ra, rw0])
  have hii : i = e.requests.length := by omega
  rw [hii, List.take_length] at rw0
  refine pw_intro (equalO_ok (f := F 14) (w := wantsL e.store.refs.length e.requests) (l := e.store.refs) rw0 wants_len (by omega)) ?_
  rintro _ n4 hn4 rfl
  repeat (first | rw [kz_o] | rw [kz_r0] | simp -dsimp -implicitDefEqProofs only [go_sem, Nat.reduceBEq, Nat.reduceAdd, Nat.reduceLeDiff, Nat.reduceMul, Int.reduceLE, Int.reduceLT, Int.reduceBEq])
  refine ⟨le_up hle hn4, ⟨_, rfl⟩, ?_⟩
  rw [hB, List.all_eq_true.2 fun x hx => ?_]
  · rfl
  · obtain ⟨j, hj, rfl⟩ := List.getElem_of_mem hx
    have := hpre j (by omega)
    rwa [List.getD_eq_getElem?_getD, List.getElem?_eq_getElem hj] at this
end Go.Bi
end
section
set_option linter.unusedSimpArgs false
set_option linter.unusedVariables false
set_option maxRecDepth 20000
namespace Go.Bi
open Go.Proofs
open Go.Ai (wrap_i64 Heap)
variable {W0 : World} {P : Program}
set_option maxHeartbeats 4000000
theorem specEngine_ok {F : Nat → Adr} {e : LEngine} {g : H2} (hs : smallEng e) (hrg : rngEngine e) : PW Tryz.prog W0 19 [.st (xEngine F e)] g (fun y => y = .raw (.bool (engB e))) := by
  obtain ⟨s1, s2, s3, s4, s5⟩ := id hs
  refine PW.scalar ?_
  refine start (P := Tryz.prog) [[0], [1], [], [1], [1, 3], [1, 3, 4], [1, 3, 4], [1, 3, 4], [], [1, 3, 4], [1, 3, 4, 5], [1, 3, 4, 5], [1, 3, 4, 5], [1, 3], [1, 3, 6], [1, 3, 6], [1, 3, 6], [], []] (by kernel_rfl) Tryz.func19 rfl (by decide) (by decide +kernel) (rs := [.tmp 2]) rfl rfl (Nat.le_of_ble_eq_true rfl) ?_
  intro wf
  repeat (first | rw [kz_o] | rw [kz_r0] | simp -dsimp -implicitDefEqProofs only [go_sem, Nat.reduceBEq, Nat.reduceAdd, Nat.reduceLeDiff, Nat.reduceMul, Int.reduceLE, Int.reduceLT, Int.reduceBEq, hoo])
  refine pw_intro (specModel_ok (F := F) (m := e.model) s1) ?_
  rintro _ n1 hn1 rfl
  simp only [hn_push] at hn1
  first | (rw [kz_r]; refine ⟨by simp -dsimp -implicitDefEqProofs only [go_sem, Nat.reduceBEq, Nat.reduceAdd, Nat.reduceLeDiff, Nat.reduceMul, Int.reduceLE, Int.reduceLT, Int.reduceBEq, hoo], ?_⟩) | skip
  cases h1 : modelB e.model
  · repeat (first | rw [kz_o] | rw [kz_r0] | simp -dsimp -implicitDefEqProofs only [go_sem, Nat.reduceBEq, Nat.reduceAdd, Nat.reduceLeDiff, Nat.reduceMul, Int.reduceLE, Int.reduceLT, Int.reduceBEq, hoo])
    exact ⟨by repeat (first | exact H2.le.refl _ | assumption | apply le_push | refine le_up ?_ (by first | assumption | (simp only [hn_up, hn_push] at *; omega))), ⟨_, rfl⟩, by rw [engB, h1]; rfl⟩
  repeat (first | rw [kz_o] | rw [kz_r0] | simp -dsimp -implicitDefEqProofs only [go_sem, Nat.reduceBEq, Nat.reduceAdd, Nat.reduceLeDiff, Nat.reduceMul, Int.reduceLE, Int.reduceLT, Int.reduceBEq, hoo])
  refine pw_intro (specStore_ok (F := fun j => F (j + 14)) (s := e.store) s2) ?_
  rintro _ n2 hn2 rfl
  simp only [hn_push, hn_up] at hn2
  first | (rw [kz_r]; refine ⟨by simp -dsimp -implicitDefEqProofs only [go_sem, Nat.reduceBEq, Nat.reduceAdd, Nat.reduceLeDiff, Nat.reduceMul, Int.reduceLE, Int.reduceLT, Int.reduceBEq, hoo], ?_⟩) | skip
  cases h2 : storeB e.store
  · repeat (first | rw [kz_o] | rw [kz_r0] | simp -dsimp -implicitDefEqProofs only [go_sem, Nat.reduceBEq, Nat.reduceAdd, Nat.reduceLeDiff, Nat.reduceMul, Int.reduceLE, Int.reduceLT, Int.reduceBEq, hoo])
    exact ⟨by repeat (first | exact H2.le.refl _ | assumption | apply le_push | refine le_up ?_ (by first | assumption | (simp only [hn_up, hn_push] at *; omega))), ⟨_, rfl⟩, by rw [engB, h1, h2]; rfl⟩
  by_cases h3 : (e.requests.length : Int) > 10
  · repeat (first | rw [kz_o] | rw [kz_r0] | simp -dsimp -implicitDefEqProofs only [go_sem, Nat.reduceBEq, Nat.reduceAdd, Nat.reduceLeDiff, Nat.reduceMul, Int.reduceLE, Int.reduceLT, Int.reduceBEq, hoo, h3])
    exact ⟨by repeat (first | exact H2.le.refl _ | assumption | apply le_push | refine le_up ?_ (by first | assumption | (simp only [hn_up, hn_push] at *; omega))), ⟨_, rfl⟩, by rw [engB, h1, h2, decide_eq_false (by omega)]; rfl⟩
  obtain ⟨hpl, hrl⟩ := storeB_len h2
  have hB : engB e = (e.requests.all (reqB e) && decide (wantsL e.store.refs.length e.requests = e.store.refs)) := by rw [engB, h1, h2, decide_eq_true (by omega)]; rfl
  repeat (first | rw [kz_o] | rw [kz_r0] | simp -dsimp -implicitDefEqProofs only [go_sem, Nat.reduceBEq, Nat.reduceAdd, Nat.reduceLeDiff, Nat.reduceMul, Int.reduceLE, Int.reduceLT, Int.reduceBEq, hoo, h3])
  refine make_intro Ai.ty_el27 Ai.ty_zr3 (by decide) ⟨by omega, by simp only [Int.toNat_natCast]; have : Ai.most = 1099511627776 := rfl; omega⟩ ?_
  simp only [hn_push, hn_up, Int.toNat_natCast]
  have hne0 : (hn g .mk == n2) = false := by simp; omega
  repeat (first | rw [kz_o] | rw [kz_r0] | simp -dsimp -implicitDefEqProofs only [go_sem, Nat.reduceBEq, Nat.reduceAdd, Nat.reduceLeDiff, Nat.reduceMul, Int.reduceLE, Int.reduceLT, Int.reduceBEq, hoo, hne0])
  refine lz_keep [1, 3] (fun mm s h' => ∃ (i : Nat), g.le h' ∧ n2 + 1 ≤ hn h' .mk ∧ hg h' (hn g .mk) .mk = some ⟨17, [.raw (.int .i64 e.model.dim), .raw (.int .i64 e.model.heads), .raw (.int .i64 e.model.context), .sl (F 3) 2 (rMergeS e.model.merges), .sl (F 4) 1 (rIntSS e.model.embed), .sl (F 5) 32 (rLayerS e.model.layers), .sl (F 6) 1 (ints e.model.gainEnd), .raw (.int .i64 e.model.head.width), .sl (F 8) 1 (rIntSS e.model.head.rows), .sl (F 9) 1 (rIntSS e.model.head.scales), .raw (.int .i64 e.model.head.mul), .raw (.int .i64 e.model.head.shift), .sl (F 12) 1 (rIntSS e.model.turns.cos), .sl (F 13) 1 (rIntSS e.model.turns.sin), .sl (F 14) 1 (ints e.store.refs), .sl (F 15) 1 (rCellSS e.store.pages), .sl (F 16) 10 (rRequestS e.requests)]⟩ ∧ hg h' n2 .mk = some ⟨1, (wantsL e.store.refs.length (e.requests.take i)).map cI⟩ ∧ look s 4 .mk = .raw (.int .i64 (i : Nat)) ∧ mm + i = e.requests.length ∧ ∀ j, j < i → reqB e (e.requests.getD j default) = true) e.requests.length ?_ ?_
  · have hne : (hn g .mk == n2) = false := by simp; omega
    refine ⟨0, by repeat (first | exact H2.le.refl _ | assumption | apply le_push | refine le_up ?_ (by first | assumption | (simp only [hn_up, hn_push] at *; omega))), by simp only [hn_push, hn_up]; omega, by simp -dsimp -implicitDefEqProofs only [go_sem, Nat.reduceBEq, Nat.reduceAdd, Nat.reduceLeDiff, Nat.reduceMul, Int.reduceLE, Int.reduceLT, Int.reduceBEq, hoo, hne] <;> rfl, ?_, by simp -dsimp -implicitDefEqProofs only [go_sem, Nat.reduceBEq, Nat.reduceAdd, Nat.reduceLeDiff, Nat.reduceMul, Int.reduceLE, Int.reduceLT, Int.reduceBEq], by omega, fun j hj => by omega⟩
    simp -dsimp -implicitDefEqProofs only [go_sem, Nat.reduceBEq, Nat.reduceAdd, Nat.reduceLeDiff, Nat.reduceMul, Int.reduceLE, Int.reduceLT, Int.reduceBEq, hoo, zeros_I]
    rfl
  rintro mm s h' hks ⟨i, hle, hnn, ra, rw0, ei, hmm, hpre⟩
  simp -dsimp -implicitDefEqProofs only [go_sem, Nat.reduceBEq, Nat.reduceAdd, Nat.reduceLeDiff, Nat.reduceMul, Int.reduceLE, Int.reduceLT, Int.reduceBEq] at hks
  have hwl : (wantsL e.store.refs.length (e.requests.take i)).length = e.store.refs.length := wants_len
  by_cases q1 : (i : Int) < (e.requests.length : Int)
  · have q2 : i < e.requests.length := by omega
    have w1 : IntKind.i64.wrap ((i : Int) + 1) = ((i + 1 : Nat) : Int) := by rw [wrap_i64] <;> omega
    repeat (first | rw [kz_o] | rw [kz_r0] | simp -dsimp -implicitDefEqProofs only [go_sem, Nat.reduceBEq, Nat.reduceAdd, Nat.reduceLeDiff, Nat.reduceMul, Int.reduceLE, Int.reduceLT, Int.reduceBEq, hks, ei, q1, q2, ra, rw0])
    refine dq_intro [(0, []), (1, []), (2, []), (3, []), (4, []), (5, []), (6, []), (7, [])] (by kernel_rfl) ?_
    repeat (first | rw [kz_o] | rw [kz_r0] | simp -dsimp -implicitDefEqProofs only [go_sem, Nat.reduceBEq, Nat.reduceAdd, Nat.reduceLeDiff, Nat.reduceMul, Int.reduceLE, Int.reduceLT, Int.reduceBEq, hks, ei, q1, q2, ra, rw0])
    refine pw_intro (specReq_ok (F := F) (F' := fun j => under (under (F 16) i) j) (r := e.requests.getD i default) h1 h2 hs (s5 i q2) (hrg _ (getD_memR q2)).1) ?_
    rintro _ n3 hn3 rfl
    first | (rw [kz_r]; refine ⟨by simp -dsimp -implicitDefEqProofs only [go_sem, Nat.reduceBEq, Nat.reduceAdd, Nat.reduceLeDiff, Nat.reduceMul, Int.reduceLE, Int.reduceLT, Int.reduceBEq, hks, ei, ra, rw0], ?_⟩) | skip
    cases h4 : reqB e (e.requests.getD i default)
    · repeat (first | rw [kz_o] | rw [kz_r0] | simp -dsimp -implicitDefEqProofs only [go_sem, Nat.reduceBEq, Nat.reduceAdd, Nat.reduceLeDiff, Nat.reduceMul, Int.reduceLE, Int.reduceLT, Int.reduceBEq, hks, ei, q1, q2, ra, rw0])
      refine ⟨le_up hle hn3, ⟨_, rfl⟩, ?_⟩
      rw [hB, Bool.and_eq_false_iff.2 (.inl ?_)]
      rw [List.all_eq_false]
      exact ⟨_, getD_memR q2, by rw [h4]; simp⟩
    obtain ⟨hp16, htb⟩ := reqB_pages h4
    have hpg := (table_t htb).2.2.2
    repeat (first | rw [kz_o] | rw [kz_r0] | simp -dsimp -implicitDefEqProofs only [go_sem, Nat.reduceBEq, Nat.reduceAdd, Nat.reduceLeDiff, Nat.reduceMul, Int.reduceLE, Int.reduceLT, Int.reduceBEq, hks, ei, q1, q2, ra, rw0])
    refine lz_keep [1, 3, 4] (fun m2 s2 h2' => ∃ (k : Nat), g.le h2' ∧ n2 + 1 ≤ hn h2' .mk ∧ hg h2' (hn g .mk) .mk = some ⟨17, [.raw (.int .i64 e.model.dim), .raw (.int .i64 e.model.heads), .raw (.int .i64 e.model.context), .sl (F 3) 2 (rMergeS e.model.merges), .sl (F 4) 1 (rIntSS e.model.embed), .sl (F 5) 32 (rLayerS e.model.layers), .sl (F 6) 1 (ints e.model.gainEnd), .raw (.int .i64 e.model.head.width), .sl (F 8) 1 (rIntSS e.model.head.rows), .sl (F 9) 1 (rIntSS e.model.head.scales), .raw (.int .i64 e.model.head.mul), .raw (.int .i64 e.model.head.shift), .sl (F 12) 1 (rIntSS e.model.turns.cos), .sl (F 13) 1 (rIntSS e.model.turns.sin), .sl (F 14) 1 (ints e.store.refs), .sl (F 15) 1 (rCellSS e.store.pages), .sl (F 16) 10 (rRequestS e.requests)]⟩ ∧ hg h2' n2 .mk = some ⟨1, (((e.requests.getD i default).table.pages.take k).foldl bump (wantsL e.store.refs.length (e.requests.take i))).map cI⟩ ∧ look s2 5 .mk = .raw (.int .i64 (k : Nat)) ∧ m2 + k = (e.requests.getD i default).table.pages.length) (e.requests.getD i default).table.pages.length ?_ ?_
    · refine ⟨0, le_up hle hn3, by rw [hn_up]; omega, by simp -dsimp -implicitDefEqProofs only [go_sem, Nat.reduceBEq, Nat.reduceAdd, Nat.reduceLeDiff, Nat.reduceMul, Int.reduceLE, Int.reduceLT, Int.reduceBEq, ra] <;> rfl, by simp -dsimp -implicitDefEqProofs only [go_sem, Nat.reduceBEq, Nat.reduceAdd, Nat.reduceLeDiff, Nat.reduceMul, Int.reduceLE, Int.reduceLT, Int.reduceBEq, rw0] <;> rfl, by simp -dsimp -implicitDefEqProofs only [go_sem, Nat.reduceBEq, Nat.reduceAdd, Nat.reduceLeDiff, Nat.reduceMul, Int.reduceLE, Int.reduceLT, Int.reduceBEq], by omega⟩
    rintro m2 s2 h2' hks2 ⟨k, hle2, hnn2, rb, rv, ek, hm2⟩
    simp -dsimp -implicitDefEqProofs only [go_sem, Nat.reduceBEq, Nat.reduceAdd, Nat.reduceLeDiff, Nat.reduceMul, Int.reduceLE, Int.reduceLT, Int.reduceBEq, hks, ei] at hks2
    have hwi : inB (16 * i) (wantsL e.store.refs.length (e.requests.take i)) := wants_in' (fun j hj => (reqB_pages (hpre j hj)).1) (by omega)
    have hwk := bumps_in (ps := (e.requests.getD i default).table.pages.take k) (B := 16 * i) (by omega) hwi
    have hvl : (((e.requests.getD i default).table.pages.take k).foldl bump (wantsL e.store.refs.length (e.requests.take i))).length = e.store.refs.length := by rw [bumps_len, hwl]
    by_cases q3 : (k : Int) < ((e.requests.getD i default).table.pages.length : Int)
    · have q4 : k < (e.requests.getD i default).table.pages.length := by omega
      have w2 : IntKind.i64.wrap ((k : Int) + 1) = ((k + 1 : Nat) : Int) := by rw [wrap_i64] <;> omega
      obtain ⟨p1, p2, p3⟩ := pgB_t (hpg k q4)
      obtain ⟨p, hp⟩ := Int.eq_ofNat_of_zero_le p1.1
      have k1 : p < e.store.refs.length := by omega
      have hsn := bumps_snoc (ps := (e.requests.getD i default).table.pages) (w := wantsL e.store.refs.length (e.requests.take i)) q4
      generalize hwdef : ((e.requests.getD i default).table.pages.take k).foldl bump (wantsL e.store.refs.length (e.requests.take i)) = w at *
      have hb := hwk p
      have hlk : (((e.requests.getD i default).table.pages.take k).length : Int) ≤ 16 := by rw [List.length_take]; omega
      have w3 : IntKind.i64.wrap (w.getD p default + 1) = w.getD p default + 1 := by rw [wrap_i64] <;> omega
      have gw := get_W (l := w) (i := p) (by omega)
      have ww := wrt_W (l := w) (i := p) (v := w.getD p default + 1) (by omega)
      have hi2 : (0 : Int) ≤ (p : Int) ∧ (p : Int) < (e.store.refs.length : Int) := by omega
      have hbump : bump w ((e.requests.getD i default).table.pages.getD k default) = w.set p (w.getD p default + 1) := by rw [hp]; rfl
      have hne3 : (hn g .mk == n2) = false := by simp; omega
      repeat (first | rw [kz_o] | rw [kz_r0] | simp -dsimp -implicitDefEqProofs only [go_sem, Nat.reduceBEq, Nat.reduceAdd, Nat.reduceLeDiff, Nat.reduceMul, Int.reduceLE, Int.reduceLT, Int.reduceBEq, hks, hks2, ei, ek, q2, q3, rb, rv])
      refine dq_intro [(0, []), (1, []), (2, []), (3, []), (4, []), (5, []), (6, []), (7, []), (8, []), (9, []), (10, []), (11, []), (12, []), (13, []), (14, []), (15, []), (16, []), (17, []), (18, []), (19, []), (20, []), (21, []), (22, []), (23, []), (24, []), (25, []), (26, [])] (by kernel_rfl) ?_
      repeat (first | rw [kz_o] | rw [kz_r0] | simp -dsimp -implicitDefEqProofs only [go_sem, Nat.reduceBEq, Nat.reduceAdd, Nat.reduceLeDiff, Nat.reduceMul, Int.reduceLE, Int.reduceLT, Int.reduceBEq, hks, hks2, ei, ek, q2, q3, q4, rb, rv, hp, hi2, nat_nn, Int.toNat_natCast, k1, gw, ww, w3, w2, hoo])
      refine nx_keep (m2 - 1) (by omega) (by simp -dsimp -implicitDefEqProofs only [go_sem, Nat.reduceBEq, Nat.reduceAdd, Nat.reduceLeDiff, Nat.reduceMul, Int.reduceLE, Int.reduceLT, Int.reduceBEq, hks, hks2]) ⟨k + 1, le_set hle2 (by omega), by rw [hn_set]; omega, by simp -dsimp -implicitDefEqProofs only [go_sem, Nat.reduceBEq, Nat.reduceAdd, Nat.reduceLeDiff, Nat.reduceMul, Int.reduceLE, Int.reduceLT, Int.reduceBEq, hoo, hne3, rb], ?_, by simp -dsimp -implicitDefEqProofs only [go_sem, Nat.reduceBEq, Nat.reduceAdd, Nat.reduceLeDiff, Nat.reduceMul, Int.reduceLE, Int.reduceLT, Int.reduceBEq, w2], by omega⟩
      rw [hsn, hbump]
      simp -dsimp -implicitDefEqProofs only [go_sem, Nat.reduceBEq, Nat.reduceAdd, Nat.reduceLeDiff, Nat.reduceMul, Int.reduceLE, Int.reduceLT, Int.reduceBEq, hoo]
    · repeat (first | rw [kz_o] | rw [kz_r0] | simp -dsimp -implicitDefEqProofs only [go_sem, Nat.reduceBEq, Nat.reduceAdd, Nat.reduceLeDiff, Nat.reduceMul, Int.reduceLE, Int.reduceLT, Int.reduceBEq, hks, hks2, ei, ek, q2, q3, rb, w1])
      have hkk : k = (e.requests.getD i default).table.pages.length := by omega
      refine nx_keep (mm - 1) (by omega) (by simp -dsimp -implicitDefEqProofs only [go_sem, Nat.reduceBEq, Nat.reduceAdd, Nat.reduceLeDiff, Nat.reduceMul, Int.reduceLE, Int.reduceLT, Int.reduceBEq, hks, hks2]) ⟨i + 1, hle2, hnn2, by simp -dsimp -implicitDefEqProofs only [go_sem, Nat.reduceBEq, Nat.reduceAdd, Nat.reduceLeDiff, Nat.reduceMul, Int.reduceLE, Int.reduceLT, Int.reduceBEq, rb], ?_, by simp -dsimp -implicitDefEqProofs only [go_sem, Nat.reduceBEq, Nat.reduceAdd, Nat.reduceLeDiff, Nat.reduceMul, Int.reduceLE, Int.reduceLT, Int.reduceBEq, w1], by omega, fun j hj => ?_⟩
      · rw [rv, hkk, List.take_length, wants_snoc q2]
      · by_cases hji : j = i
        · subst hji; exact h4
        · exact hpre j (by omega)
  repeat (first | rw [kz_o] | rw [kz_r0] | simp -dsimp -implicitDefEqProofs only [go_sem, Nat.reduceBEq, Nat.reduceAdd, Nat.reduceLeDiff, Nat.reduceMul, Int.reduceLE, Int.reduceLT, Int.reduceBEq, hks, ei, q1, ra, rw0])
  have hii : i = e.requests.length := by omega
  rw [hii, List.take_length] at rw0 hwl
  have hall : e.requests.all (reqB e) = true := by
    rw [List.all_eq_true]
    intro x hx
    obtain ⟨j, hj, rfl⟩ := List.getElem_of_mem hx
    have := hpre j (by omega)
    rwa [List.getD_eq_getElem?_getD, List.getElem?_eq_getElem hj] at this
  rw [hB, hall, Bool.true_and]
  generalize hwdef : wantsL e.store.refs.length e.requests = w at *
  refine lz_keep [1, 3] (fun m3 s3 h3' => ∃ (k : Nat), h3' = h' ∧ look s3 6 .mk = .raw (.int .i64 (k : Nat)) ∧ m3 + k = e.store.refs.length ∧ ∀ j, j < k → w.getD j default = e.store.refs.getD j default) e.store.refs.length ?_ ?_
  · exact ⟨0, rfl, by simp -dsimp -implicitDefEqProofs only [go_sem, Nat.reduceBEq, Nat.reduceAdd, Nat.reduceLeDiff, Nat.reduceMul, Int.reduceLE, Int.reduceLT, Int.reduceBEq], by omega, fun j hj => by omega⟩
  rintro m3 s3 _ hks3 ⟨k, rfl, ek, hm3, hpre3⟩
  simp -dsimp -implicitDefEqProofs only [go_sem, Nat.reduceBEq, Nat.reduceAdd, Nat.reduceLeDiff, Nat.reduceMul, Int.reduceLE, Int.reduceLT, Int.reduceBEq, hks] at hks3
  by_cases q3 : (k : Int) < (e.store.refs.length : Int)
  · have q4 : k < e.store.refs.length := by omega
    have w2 : IntKind.i64.wrap ((k : Int) + 1) = ((k + 1 : Nat) : Int) := by rw [wrap_i64] <;> omega
    have gw := get_W (l := w) (i := k) (by omega)
    have hi2 : (0 : Int) ≤ (k : Int) ∧ (k : Int) < (e.store.refs.length : Int) := by omega
    by_cases q5 : w.getD k default = e.store.refs.getD k default
    · have e5 : decide (¬ w.getD k default = e.store.refs.getD k default) = false := decide_eq_false (fun h => h q5)
      repeat (first | rw [kz_o] | rw [kz_r0] | simp -dsimp -implicitDefEqProofs only [go_sem, Nat.reduceBEq, Nat.reduceAdd, Nat.reduceLeDiff, Nat.reduceMul, Int.reduceLE, Int.reduceLT, Int.reduceBEq, hks3, ek, q3, q4, ra, rw0, hi2, nat_nn, Int.toNat_natCast, gw])
      refine dq_intro [(0, []), (1, []), (2, []), (3, []), (4, []), (5, []), (6, []), (7, []), (8, []), (9, []), (10, [])] (by kernel_rfl) ?_
      repeat (first | rw [kz_o] | rw [kz_r0] | simp -dsimp -implicitDefEqProofs only [go_sem, Nat.reduceBEq, Nat.reduceAdd, Nat.reduceLeDiff, Nat.reduceMul, Int.reduceLE, Int.reduceLT, Int.reduceBEq, hks3, ek, q3, q4, ra, rw0, hi2, nat_nn, Int.toNat_natCast, gw, e5, w2])
      refine nx_keep (m3 - 1) (by omega) (by simp -dsimp -implicitDefEqProofs only [go_sem, Nat.reduceBEq, Nat.reduceAdd, Nat.reduceLeDiff, Nat.reduceMul, Int.reduceLE, Int.reduceLT, Int.reduceBEq, hks3]) ⟨k + 1, rfl, by simp -dsimp -implicitDefEqProofs only [go_sem, Nat.reduceBEq, Nat.reduceAdd, Nat.reduceLeDiff, Nat.reduceMul, Int.reduceLE, Int.reduceLT, Int.reduceBEq, w2], by omega, fun j hj => ?_⟩
      by_cases hji : j = k
      · subst hji; exact q5
      · exact hpre3 j (by omega)
    · have e5 : decide (¬ w.getD k default = e.store.refs.getD k default) = true := decide_eq_true q5
      repeat (first | rw [kz_o] | rw [kz_r0] | simp -dsimp -implicitDefEqProofs only [go_sem, Nat.reduceBEq, Nat.reduceAdd, Nat.reduceLeDiff, Nat.reduceMul, Int.reduceLE, Int.reduceLT, Int.reduceBEq, hks3, ek, q3, q4, ra, rw0, hi2, nat_nn, Int.toNat_natCast, gw])
      refine dq_intro [(0, []), (1, []), (2, []), (3, []), (4, []), (5, []), (6, []), (7, []), (8, []), (9, []), (10, [])] (by kernel_rfl) ?_
      repeat (first | rw [kz_o] | rw [kz_r0] | simp -dsimp -implicitDefEqProofs only [go_sem, Nat.reduceBEq, Nat.reduceAdd, Nat.reduceLeDiff, Nat.reduceMul, Int.reduceLE, Int.reduceLT, Int.reduceBEq, hks3, ek, q3, q4, ra, rw0, hi2, nat_nn, Int.toNat_natCast, gw, e5])
      exact ⟨hle, ⟨_, rfl⟩, by rw [decide_eq_false fun h => q5 (by rw [h])]⟩
  · repeat (first | rw [kz_o] | rw [kz_r0] | simp -dsimp -implicitDefEqProofs only [go_sem, Nat.reduceBEq, Nat.reduceAdd, Nat.reduceLeDiff, Nat.reduceMul, Int.reduceLE, Int.reduceLT, Int.reduceBEq, hks3, ek, q3])
    refine ⟨hle, ⟨_, rfl⟩, ?_⟩
    rw [decide_eq_true]
    refine List.ext_getElem (by omega) fun j a b => ?_
    have := hpre3 j (by omega)
    rwa [List.getD_eq_getElem?_getD, List.getD_eq_getElem?_getD, List.getElem?_eq_getElem a, List.getElem?_eq_getElem b] at this
end Go.Bi
end
section
set_option linter.unusedSimpArgs false
set_option linter.unusedVariables false
set_option maxRecDepth 20000
namespace Go.Bi
open Go.Proofs
open Go.Ai (wrap_i64 Heap)
variable {W0 : World} {P : Program}
theorem hobE (b : Bool) : (b == b) = true := by simp
attribute [go_sem] hobE
theorem eqEngine_tree {g : H2} {c : LEngine} {bs bs' : List Nat} {ys ys' : List X} (o : OTs g bs ys (eEngine c)) (o' : OTs g bs' ys' (eEngine c)) (hf : fitEngine c) : PW Tryz.prog W0 21 [.st ys, .st ys'] g (fun y => y = .raw (.bool true)) := by
  obtain ⟨F, hF⟩ := o.lent
  obtain ⟨F', hF'⟩ := o'.lent
  exact PW.lend (.cons hF (.cons hF' .nil)) (eqEngine_ok (F := F) (F' := F') hf) (fun y h => by subst h; exact .raw)
end Go.Bi
end
section
set_option linter.unusedSimpArgs false
set_option linter.unusedVariables false
set_option maxRecDepth 20000
namespace Go.Bi
open Go.Proofs
open Go.Ai (wrap_i64 Heap)
variable {W0 : World} {P : Program}
set_option maxHeartbeats 2000000
def PlainK (x : X) : Prop := (∃ v, x = .raw v) ∨ ∃ vs : List Value, x = .tp (vs.map .raw)
theorem PlainK.fz {p q : Nat → Prop} {g : H2} {x : X} (h : PlainK x) : Fz p q g x x := by
  rcases h with ⟨v, rfl⟩ | ⟨vs, rfl⟩
  · exact .raw
  · refine .tp rfl fun i hi hi' => ?_
    simp only [List.getElem_map]; exact .raw
theorem PW.plainK {f : FuncId} {xs : List X} {g : H2} {Q : X → Prop} (c : WC2 P W0 f xs g fun x g' => g.le g' ∧ PlainK x ∧ Q x) : PW P W0 f xs g Q :=
  (PW.of (q := fun _ => True) (Q := Q) (c.mono fun x g' ⟨h1, h2, h3⟩ => ⟨h1, x, h2.fz, h3⟩)).mono fun y h => h.1
end Go.Bi
end
section
set_option linter.unusedSimpArgs false
set_option linter.unusedVariables false
set_option maxRecDepth 20000
namespace Go.Bi
open Go.Proofs
open Go.Ai (wrap_i64 Heap)
variable {W0 : World} {P : Program}
set_option maxHeartbeats 4000000
def cntN (p : Nat → Bool) : Nat → Nat
  | 0 => 0
  | k + 1 => cntN p k + (if p k = true then 1 else 0)
theorem cntN_le {p : Nat → Bool} : ∀ k, cntN p k ≤ k
  | 0 => Nat.le_refl _
  | k + 1 => by
    have := cntN_le (p := p) k
    unfold cntN
    split <;> omega
theorem cntN_t {p : Nat → Bool} {k : Nat} (h : p k = true) : cntN p (k + 1) = cntN p k + 1 := by
  show cntN p k + (if p k = true then 1 else 0) = _
  rw [if_pos h]
theorem cntN_f {p : Nat → Bool} {k : Nat} (h : p k = false) : cntN p (k + 1) = cntN p k := by
  show cntN p k + (if p k = true then 1 else 0) = _
  rw [if_neg (by rw [h]; decide)]; rfl
def freeZ (r : List Int) : Nat := if poolB r = true then cntN (fun i => decide (r.getD i default = 0)) r.length else 0
def liveN (e : LEngine) : Nat := cntN (fun i => decide ((e.requests.getD i default).status = 0)) e.requests.length
def sharedN (e : LEngine) : Nat := cntN (fun i => decide (e.store.refs.getD i default > 1)) e.store.refs.length
def cn1 (e : LEngine) : Int := if engB e = true then (liveN e : Int) else 0
def cn2 (e : LEngine) : Int := if engB e = true then (freeZ e.store.refs : Int) else 0
def cn3 (e : LEngine) : Int := if engB e = true then (sharedN e : Int) else 0
theorem census_f {e : LEngine} (h : engB e = false) : X.tp [.raw (.int .i64 0), .raw (.int .i64 0), .raw (.int .i64 0)] = .tp [.raw (.int .i64 (cn1 e)), .raw (.int .i64 (cn2 e)), .raw (.int .i64 (cn3 e))] := by
  unfold cn1 cn2 cn3
  rw [h]; rfl
theorem census_t {e : LEngine} (h : engB e = true) : X.tp [.raw (.int .i64 (liveN e : Int)), .raw (.int .i64 (freeZ e.store.refs : Int)), .raw (.int .i64 (sharedN e : Int))] = .tp [.raw (.int .i64 (cn1 e)), .raw (.int .i64 (cn2 e)), .raw (.int .i64 (cn3 e))] := by
  unfold cn1 cn2 cn3
  rw [h]; rfl
theorem implFree_ok {f : Adr} {r : List Int} {g : H2} (hr : r.length ≤ 1048576) : PW Tryz.prog W0 70 [.sl f 1 (ints r)] g (fun y => y = .raw (.int .i64 (freeZ r))) := by
  refine PW.scalar ?_
  refine start (P := Tryz.prog) [[0], [0], [], [0], [0, 3], [3, 9, 10, 11], [3, 9, 10, 11], [3, 5, 9, 10, 11], [3, 9, 10, 11], [3, 9, 10, 11], [3]] (by kernel_rfl) Tryz.func70 rfl (by decide) (by decide +kernel) (rs := [.tmp 2]) rfl rfl (Nat.le_of_ble_eq_true rfl) ?_
  intro wf
  repeat (first | rw [kz_o] | rw [kz_r0] | simp -dsimp -implicitDefEqProofs only [go_sem, Nat.reduceBEq, Nat.reduceAdd, Nat.reduceLeDiff, Nat.reduceMul, Int.reduceLE, Int.reduceLT, Int.reduceBEq])
  refine pw_intro (implPool_ok hr) ?_
  rintro _ n1 hn1 rfl
  cases h1 : poolB r
  · repeat (first | rw [kz_o] | rw [kz_r0] | simp -dsimp -implicitDefEqProofs only [go_sem, Nat.reduceBEq, Nat.reduceAdd, Nat.reduceLeDiff, Nat.reduceMul, Int.reduceLE, Int.reduceLT, Int.reduceBEq])
    exact ⟨le_up (H2.le.refl _) hn1, ⟨_, rfl⟩, by rw [freeZ, h1]; rfl⟩
  repeat (first | rw [kz_o] | rw [kz_r0] | simp -dsimp -implicitDefEqProofs only [go_sem, Nat.reduceBEq, Nat.reduceAdd, Nat.reduceLeDiff, Nat.reduceMul, Int.reduceLE, Int.reduceLT, Int.reduceBEq])
  refine lz_keep [9, 10] (fun m e h' => ∃ (i : Nat), g.le h' ∧ look e 11 .mk = .raw (.int .i64 (i : Nat)) ∧ look e 3 .mk = .raw (.int .i64 (cntN (fun i => decide (r.getD i default = 0)) i : Nat)) ∧ m + i = r.length) r.length ?_ ?_
  · exact ⟨0, le_up (H2.le.refl _) hn1, by simp -dsimp -implicitDefEqProofs only [go_sem, Nat.reduceBEq, Nat.reduceAdd, Nat.reduceLeDiff, Nat.reduceMul, Int.reduceLE, Int.reduceLT, Int.reduceBEq], by simp -dsimp -implicitDefEqProofs only [go_sem, Nat.reduceBEq, Nat.reduceAdd, Nat.reduceLeDiff, Nat.reduceMul, Int.reduceLE, Int.reduceLT, Int.reduceBEq] <;> rfl, by omega⟩
  rintro m e h' hks ⟨i, hle, ei, e3, hm⟩
  simp -dsimp -implicitDefEqProofs only [go_sem, Nat.reduceBEq, Nat.reduceAdd, Nat.reduceLeDiff, Nat.reduceMul, Int.reduceLE, Int.reduceLT, Int.reduceBEq] at hks
  by_cases q1 : (i : Int) < (r.length : Int)
  · have q2 : i < r.length := by omega
    have w1 : IntKind.i64.wrap ((i : Int) + 1) = ((i + 1 : Nat) : Int) := by rw [wrap_i64] <;> omega
    have hc := cntN_le (p := fun i => decide (r.getD i default = 0)) i
    cases hp : decide (r.getD i default = 0)
    · repeat (first | rw [kz_o] | rw [kz_r0] | simp -dsimp -implicitDefEqProofs only [go_sem, Nat.reduceBEq, Nat.reduceAdd, Nat.reduceLeDiff, Nat.reduceMul, Int.reduceLE, Int.reduceLT, Int.reduceBEq, hks, ei, e3, q1, q2, hp, w1])
      exact nx_keep (m - 1) (by omega) (by simp -dsimp -implicitDefEqProofs only [go_sem, Nat.reduceBEq, Nat.reduceAdd, Nat.reduceLeDiff, Nat.reduceMul, Int.reduceLE, Int.reduceLT, Int.reduceBEq, hks]) ⟨i + 1, hle, by simp -dsimp -implicitDefEqProofs only [go_sem, Nat.reduceBEq, Nat.reduceAdd, Nat.reduceLeDiff, Nat.reduceMul, Int.reduceLE, Int.reduceLT, Int.reduceBEq, w1], by simp -dsimp -implicitDefEqProofs only [go_sem, Nat.reduceBEq, Nat.reduceAdd, Nat.reduceLeDiff, Nat.reduceMul, Int.reduceLE, Int.reduceLT, Int.reduceBEq, e3]; exact congrArg (fun n : Nat => X.raw (Value.int IntKind.i64 (n : Int))) (cntN_f (p := fun i => decide (r.getD i default = 0)) hp).symm, by omega⟩
    · have w2 : IntKind.i64.wrap (((cntN (fun i => decide (r.getD i default = 0)) i : Nat) : Int) + 1) = ((cntN (fun i => decide (r.getD i default = 0)) i + 1 : Nat) : Int) := by rw [wrap_i64] <;> omega
      repeat (first | rw [kz_o] | rw [kz_r0] | simp -dsimp -implicitDefEqProofs only [go_sem, Nat.reduceBEq, Nat.reduceAdd, Nat.reduceLeDiff, Nat.reduceMul, Int.reduceLE, Int.reduceLT, Int.reduceBEq, hks, ei, e3, q1, q2, hp, w1, w2])
      exact nx_keep (m - 1) (by omega) (by simp -dsimp -implicitDefEqProofs only [go_sem, Nat.reduceBEq, Nat.reduceAdd, Nat.reduceLeDiff, Nat.reduceMul, Int.reduceLE, Int.reduceLT, Int.reduceBEq, hks]) ⟨i + 1, hle, by simp -dsimp -implicitDefEqProofs only [go_sem, Nat.reduceBEq, Nat.reduceAdd, Nat.reduceLeDiff, Nat.reduceMul, Int.reduceLE, Int.reduceLT, Int.reduceBEq, w1], by simp -dsimp -implicitDefEqProofs only [go_sem, Nat.reduceBEq, Nat.reduceAdd, Nat.reduceLeDiff, Nat.reduceMul, Int.reduceLE, Int.reduceLT, Int.reduceBEq, e3]; exact congrArg (fun n : Nat => X.raw (Value.int IntKind.i64 (n : Int))) (cntN_t (p := fun i => decide (r.getD i default = 0)) hp).symm, by omega⟩
  · repeat (first | rw [kz_o] | rw [kz_r0] | simp -dsimp -implicitDefEqProofs only [go_sem, Nat.reduceBEq, Nat.reduceAdd, Nat.reduceLeDiff, Nat.reduceMul, Int.reduceLE, Int.reduceLT, Int.reduceBEq, hks, ei, e3, q1])
    have hi : i = r.length := by omega
    exact ⟨hle, ⟨_, rfl⟩, by rw [freeZ, h1, if_pos rfl, hi]⟩
theorem specFree_ok {f : Adr} {r : List Int} {g : H2} (hr : r.length ≤ 1048576) : PW Tryz.prog W0 16 [.sl f 1 (ints r)] g (fun y => y = .raw (.int .i64 (freeZ r))) := by
  refine PW.scalar ?_
  refine start (P := Tryz.prog) [[0], [0], [0, 3], [0, 3, 4], [0, 3, 4], [0, 3, 4], [0, 3, 4], [3]] (by kernel_rfl) Tryz.func16 rfl (by decide) (by decide +kernel) (rs := [.tmp 2]) rfl rfl (Nat.le_of_ble_eq_true rfl) ?_
  intro wf
  repeat (first | rw [kz_o] | rw [kz_r0] | simp -dsimp -implicitDefEqProofs only [go_sem, Nat.reduceBEq, Nat.reduceAdd, Nat.reduceLeDiff, Nat.reduceMul, Int.reduceLE, Int.reduceLT, Int.reduceBEq])
  refine lz_keep [0] (fun m e h' => ∃ (i : Nat), g.le h' ∧ look e 4 .mk = .raw (.int .i64 (i : Nat)) ∧ look e 3 .mk = .raw (.int .i64 (cntN (fun i => decide (r.getD i default = 0)) i : Nat)) ∧ m + i = r.length ∧ (0 < i → poolB r = true)) r.length ?_ ?_
  · exact ⟨0, H2.le.refl _, by simp -dsimp -implicitDefEqProofs only [go_sem, Nat.reduceBEq, Nat.reduceAdd, Nat.reduceLeDiff, Nat.reduceMul, Int.reduceLE, Int.reduceLT, Int.reduceBEq], by simp -dsimp -implicitDefEqProofs only [go_sem, Nat.reduceBEq, Nat.reduceAdd, Nat.reduceLeDiff, Nat.reduceMul, Int.reduceLE, Int.reduceLT, Int.reduceBEq] <;> rfl, by omega, fun h => by omega⟩
  rintro m e h' hks ⟨i, hle, ei, e3, hm, hpos⟩
  simp -dsimp -implicitDefEqProofs only [go_sem, Nat.reduceBEq, Nat.reduceAdd, Nat.reduceLeDiff, Nat.reduceMul, Int.reduceLE, Int.reduceLT, Int.reduceBEq] at hks
  by_cases q1 : (i : Int) < (r.length : Int)
  · have q2 : i < r.length := by omega
    repeat (first | rw [kz_o] | rw [kz_r0] | simp -dsimp -implicitDefEqProofs only [go_sem, Nat.reduceBEq, Nat.reduceAdd, Nat.reduceLeDiff, Nat.reduceMul, Int.reduceLE, Int.reduceLT, Int.reduceBEq, hks, ei, e3, q1])
    refine pw_intro (specPool_ok hr) ?_
    rintro _ n1 hn1 rfl
    cases h1 : poolB r
    · have hi : i = 0 := by
        rcases Nat.eq_zero_or_pos i with h | h
        · exact h
        · rw [hpos h] at h1; cases h1
      repeat (first | rw [kz_o] | rw [kz_r0] | simp -dsimp -implicitDefEqProofs only [go_sem, Nat.reduceBEq, Nat.reduceAdd, Nat.reduceLeDiff, Nat.reduceMul, Int.reduceLE, Int.reduceLT, Int.reduceBEq, hks, ei, e3])
      exact ⟨le_up hle hn1, ⟨_, rfl⟩, by rw [freeZ, h1, hi]; rfl⟩
    have w1 : IntKind.i64.wrap ((i : Int) + 1) = ((i + 1 : Nat) : Int) := by rw [wrap_i64] <;> omega
    have hc := cntN_le (p := fun i => decide (r.getD i default = 0)) i
    cases hp : decide (r.getD i default = 0)
    · repeat (first | rw [kz_o] | rw [kz_r0] | simp -dsimp -implicitDefEqProofs only [go_sem, Nat.reduceBEq, Nat.reduceAdd, Nat.reduceLeDiff, Nat.reduceMul, Int.reduceLE, Int.reduceLT, Int.reduceBEq, hks, ei, e3, q1, q2, hp, w1])
      exact nx_keep (m - 1) (by omega) (by simp -dsimp -implicitDefEqProofs only [go_sem, Nat.reduceBEq, Nat.reduceAdd, Nat.reduceLeDiff, Nat.reduceMul, Int.reduceLE, Int.reduceLT, Int.reduceBEq, hks]) ⟨i + 1, le_up hle hn1, by simp -dsimp -implicitDefEqProofs only [go_sem, Nat.reduceBEq, Nat.reduceAdd, Nat.reduceLeDiff, Nat.reduceMul, Int.reduceLE, Int.reduceLT, Int.reduceBEq, w1], by simp -dsimp -implicitDefEqProofs only [go_sem, Nat.reduceBEq, Nat.reduceAdd, Nat.reduceLeDiff, Nat.reduceMul, Int.reduceLE, Int.reduceLT, Int.reduceBEq, e3]; exact congrArg (fun n : Nat => X.raw (Value.int IntKind.i64 (n : Int))) (cntN_f (p := fun i => decide (r.getD i default = 0)) hp).symm, by omega, fun _ => by first | exact h1 | rfl⟩
    · have w2 : IntKind.i64.wrap (((cntN (fun i => decide (r.getD i default = 0)) i : Nat) : Int) + 1) = ((cntN (fun i => decide (r.getD i default = 0)) i + 1 : Nat) : Int) := by rw [wrap_i64] <;> omega
      repeat (first | rw [kz_o] | rw [kz_r0] | simp -dsimp -implicitDefEqProofs only [go_sem, Nat.reduceBEq, Nat.reduceAdd, Nat.reduceLeDiff, Nat.reduceMul, Int.reduceLE, Int.reduceLT, Int.reduceBEq, hks, ei, e3, q1, q2, hp, w1, w2])
      exact nx_keep (m - 1) (by omega) (by simp -dsimp -implicitDefEqProofs only [go_sem, Nat.reduceBEq, Nat.reduceAdd, Nat.reduceLeDiff, Nat.reduceMul, Int.reduceLE, Int.reduceLT, Int.reduceBEq, hks]) ⟨i + 1, le_up hle hn1, by simp -dsimp -implicitDefEqProofs only [go_sem, Nat.reduceBEq, Nat.reduceAdd, Nat.reduceLeDiff, Nat.reduceMul, Int.reduceLE, Int.reduceLT, Int.reduceBEq, w1], by simp -dsimp -implicitDefEqProofs only [go_sem, Nat.reduceBEq, Nat.reduceAdd, Nat.reduceLeDiff, Nat.reduceMul, Int.reduceLE, Int.reduceLT, Int.reduceBEq, e3]; exact congrArg (fun n : Nat => X.raw (Value.int IntKind.i64 (n : Int))) (cntN_t (p := fun i => decide (r.getD i default = 0)) hp).symm, by omega, fun _ => by first | exact h1 | rfl⟩
  · repeat (first | rw [kz_o] | rw [kz_r0] | simp -dsimp -implicitDefEqProofs only [go_sem, Nat.reduceBEq, Nat.reduceAdd, Nat.reduceLeDiff, Nat.reduceMul, Int.reduceLE, Int.reduceLT, Int.reduceBEq, hks, ei, e3, q1])
    have hi : i = r.length := by omega
    refine ⟨hle, ⟨_, rfl⟩, ?_⟩
    by_cases h0 : 0 < i
    · rw [freeZ, hpos h0, if_pos rfl, hi]
    · have : r.length = 0 := by omega
      have e0 : freeZ r = 0 := by unfold freeZ; rw [this]; split <;> rfl
      rw [e0, show i = 0 by omega]; rfl
theorem implCensus_ok {F : Nat → Adr} {e : LEngine} {g : H2} (hs : smallEng e) (hrg : rngEngine e) : PW Tryz.prog W0 23 [.st (xEngine F e)] g (fun y => y = .tp [.raw (.int .i64 (cn1 e)), .raw (.int .i64 (cn2 e)), .raw (.int .i64 (cn3 e))]) := by
  obtain ⟨_, hrf, _, _, _⟩ := id hs
  refine PW.plainK ?_
  refine start (P := Tryz.prog) [[0], [1], [], [1], [1, 5, 6], [1, 5, 6, 15, 16, 17], [1, 5, 6, 15, 16, 17], [1, 5, 6, 8, 15, 16, 17], [1, 5, 6, 15, 16, 17], [1, 5, 6, 15, 16, 17], [1, 5, 6], [1, 5, 6, 29, 30, 31], [1, 5, 6, 29, 30, 31], [1, 5, 6, 10, 29, 30, 31], [1, 5, 6, 29, 30, 31], [1, 5, 6, 29, 30, 31], [1, 5, 6]] (by kernel_rfl) Tryz.func23 rfl (by decide) (by decide +kernel) (rs := [.tmp 2, .tmp 3, .tmp 4]) rfl rfl (Nat.le_of_ble_eq_true rfl) ?_
  intro wf
  repeat (first | rw [kz_o] | rw [kz_r0] | simp -dsimp -implicitDefEqProofs only [go_sem, Nat.reduceBEq, Nat.reduceAdd, Nat.reduceLeDiff, Nat.reduceMul, Int.reduceLE, Int.reduceLT, Int.reduceBEq, hoo])
  refine pw_intro (implEngine_ok (F := F) hs) ?_
  rintro _ n1 hn1 rfl
  simp only [hn_push] at hn1
  have L1 : ∀ k : OB, g.le ((g.push k).up n1) := fun k => le_up (le_push (H2.le.refl _)) (by rw [hn_push]; exact hn1)
  first | (rw [kz_r]; refine ⟨by simp -dsimp -implicitDefEqProofs only [go_sem, Nat.reduceBEq, Nat.reduceAdd, Nat.reduceLeDiff, Nat.reduceMul, Int.reduceLE, Int.reduceLT, Int.reduceBEq, hoo], ?_⟩) | skip
  cases h1 : engB e
  · repeat (first | rw [kz_o] | rw [kz_r0] | simp -dsimp -implicitDefEqProofs only [go_sem, Nat.reduceBEq, Nat.reduceAdd, Nat.reduceLeDiff, Nat.reduceMul, Int.reduceLE, Int.reduceLT, Int.reduceBEq, hoo])
    exact ⟨L1 _, .inr ⟨[_, _, _], rfl⟩, census_f h1⟩
  repeat (first | rw [kz_o] | rw [kz_r0] | simp -dsimp -implicitDefEqProofs only [go_sem, Nat.reduceBEq, Nat.reduceAdd, Nat.reduceLeDiff, Nat.reduceMul, Int.reduceLE, Int.reduceLT, Int.reduceBEq, hoo])
  refine lz_keep [1, 6, 15, 16] (fun m s h' => ∃ (i : Nat), g.le h' ∧ hn g .mk + 1 ≤ hn h' .mk ∧ hg h' (hn g .mk) .mk = some ⟨17, [.raw (.int .i64 e.model.dim), .raw (.int .i64 e.model.heads), .raw (.int .i64 e.model.context), .sl (F 3) 2 (rMergeS e.model.merges), .sl (F 4) 1 (rIntSS e.model.embed), .sl (F 5) 32 (rLayerS e.model.layers), .sl (F 6) 1 (ints e.model.gainEnd), .raw (.int .i64 e.model.head.width), .sl (F 8) 1 (rIntSS e.model.head.rows), .sl (F 9) 1 (rIntSS e.model.head.scales), .raw (.int .i64 e.model.head.mul), .raw (.int .i64 e.model.head.shift), .sl (F 12) 1 (rIntSS e.model.turns.cos), .sl (F 13) 1 (rIntSS e.model.turns.sin), .sl (F 14) 1 (ints e.store.refs), .sl (F 15) 1 (rCellSS e.store.pages), .sl (F 16) 10 (rRequestS e.requests)]⟩ ∧ look s 17 .mk = .raw (.int .i64 (i : Nat)) ∧ look s 5 .mk = .raw (.int .i64 (cntN (fun i => decide ((e.requests.getD i default).status = 0)) i : Nat)) ∧ m + i = e.requests.length) e.requests.length ?_ ?_
  · exact ⟨0, L1 _, by rw [hn_up]; omega, by simp -dsimp -implicitDefEqProofs only [go_sem, Nat.reduceBEq, Nat.reduceAdd, Nat.reduceLeDiff, Nat.reduceMul, Int.reduceLE, Int.reduceLT, Int.reduceBEq, hoo] <;> rfl, by simp -dsimp -implicitDefEqProofs only [go_sem, Nat.reduceBEq, Nat.reduceAdd, Nat.reduceLeDiff, Nat.reduceMul, Int.reduceLE, Int.reduceLT, Int.reduceBEq], by simp -dsimp -implicitDefEqProofs only [go_sem, Nat.reduceBEq, Nat.reduceAdd, Nat.reduceLeDiff, Nat.reduceMul, Int.reduceLE, Int.reduceLT, Int.reduceBEq] <;> rfl, by omega⟩
  rintro m s h' hks ⟨i, hle, hnn, ra, ei, e5, hm⟩
  simp -dsimp -implicitDefEqProofs only [go_sem, Nat.reduceBEq, Nat.reduceAdd, Nat.reduceLeDiff, Nat.reduceMul, Int.reduceLE, Int.reduceLT, Int.reduceBEq] at hks
  by_cases q1 : (i : Int) < (e.requests.length : Int)
  · have q2 : i < e.requests.length := by omega
    have hne1 : (hn g .mk == hn h' .mk) = false := by simp; have := hle.1; omega
    have w1 : IntKind.i64.wrap ((i : Int) + 1) = ((i + 1 : Nat) : Int) := by rw [wrap_i64] <;> omega
    have hc := cntN_le (p := fun i => decide ((e.requests.getD i default).status = 0)) i
    cases hp : decide ((e.requests.getD i default).status = 0)
    · repeat (first | rw [kz_o] | rw [kz_r0] | simp -dsimp -implicitDefEqProofs only [go_sem, Nat.reduceBEq, Nat.reduceAdd, Nat.reduceLeDiff, Nat.reduceMul, Int.reduceLE, Int.reduceLT, Int.reduceBEq, hks, ei, e5, q1, q2, ra, hp, w1, hne1, hoo])
      exact nx_keep (m - 1) (by omega) (by simp -dsimp -implicitDefEqProofs only [go_sem, Nat.reduceBEq, Nat.reduceAdd, Nat.reduceLeDiff, Nat.reduceMul, Int.reduceLE, Int.reduceLT, Int.reduceBEq, hks]) ⟨i + 1, le_push hle, by rw [hn_push]; omega, by simp -dsimp -implicitDefEqProofs only [go_sem, Nat.reduceBEq, Nat.reduceAdd, Nat.reduceLeDiff, Nat.reduceMul, Int.reduceLE, Int.reduceLT, Int.reduceBEq, ra, hne1, hoo] <;> rfl, by simp -dsimp -implicitDefEqProofs only [go_sem, Nat.reduceBEq, Nat.reduceAdd, Nat.reduceLeDiff, Nat.reduceMul, Int.reduceLE, Int.reduceLT, Int.reduceBEq, w1], by simp -dsimp -implicitDefEqProofs only [go_sem, Nat.reduceBEq, Nat.reduceAdd, Nat.reduceLeDiff, Nat.reduceMul, Int.reduceLE, Int.reduceLT, Int.reduceBEq, e5]; exact congrArg (fun n : Nat => X.raw (Value.int IntKind.i64 (n : Int))) (cntN_f (p := fun i => decide ((e.requests.getD i default).status = 0)) hp).symm, by omega⟩
    · have w2 : IntKind.i64.wrap (((cntN (fun i => decide ((e.requests.getD i default).status = 0)) i : Nat) : Int) + 1) = ((cntN (fun i => decide ((e.requests.getD i default).status = 0)) i + 1 : Nat) : Int) := by rw [wrap_i64] <;> omega
      repeat (first | rw [kz_o] | rw [kz_r0] | simp -dsimp -implicitDefEqProofs only [go_sem, Nat.reduceBEq, Nat.reduceAdd, Nat.reduceLeDiff, Nat.reduceMul, Int.reduceLE, Int.reduceLT, Int.reduceBEq, hks, ei, e5, q1, q2, ra, hp, w1, w2, hne1, hoo])
      exact nx_keep (m - 1) (by omega) (by simp -dsimp -implicitDefEqProofs only [go_sem, Nat.reduceBEq, Nat.reduceAdd, Nat.reduceLeDiff, Nat.reduceMul, Int.reduceLE, Int.reduceLT, Int.reduceBEq, hks]) ⟨i + 1, le_push hle, by rw [hn_push]; omega, by simp -dsimp -implicitDefEqProofs only [go_sem, Nat.reduceBEq, Nat.reduceAdd, Nat.reduceLeDiff, Nat.reduceMul, Int.reduceLE, Int.reduceLT, Int.reduceBEq, ra, hne1, hoo] <;> rfl, by simp -dsimp -implicitDefEqProofs only [go_sem, Nat.reduceBEq, Nat.reduceAdd, Nat.reduceLeDiff, Nat.reduceMul, Int.reduceLE, Int.reduceLT, Int.reduceBEq, w1], by simp -dsimp -implicitDefEqProofs only [go_sem, Nat.reduceBEq, Nat.reduceAdd, Nat.reduceLeDiff, Nat.reduceMul, Int.reduceLE, Int.reduceLT, Int.reduceBEq, e5]; exact congrArg (fun n : Nat => X.raw (Value.int IntKind.i64 (n : Int))) (cntN_t (p := fun i => decide ((e.requests.getD i default).status = 0)) hp).symm, by omega⟩
  have hi : i = e.requests.length := by omega
  have e5' : look s 5 .mk = .raw (.int .i64 (liveN e : Nat)) := by rw [e5, hi]; rfl
  repeat (first | rw [kz_o] | rw [kz_r0] | simp -dsimp -implicitDefEqProofs only [go_sem, Nat.reduceBEq, Nat.reduceAdd, Nat.reduceLeDiff, Nat.reduceMul, Int.reduceLE, Int.reduceLT, Int.reduceBEq, hks, ei, e5', q1, ra])
  refine lz_keep [1, 5, 29, 30] (fun m2 s2 h2' => ∃ (k : Nat), g.le h2' ∧ hn g .mk + 1 ≤ hn h2' .mk ∧ hg h2' (hn g .mk) .mk = some ⟨17, [.raw (.int .i64 e.model.dim), .raw (.int .i64 e.model.heads), .raw (.int .i64 e.model.context), .sl (F 3) 2 (rMergeS e.model.merges), .sl (F 4) 1 (rIntSS e.model.embed), .sl (F 5) 32 (rLayerS e.model.layers), .sl (F 6) 1 (ints e.model.gainEnd), .raw (.int .i64 e.model.head.width), .sl (F 8) 1 (rIntSS e.model.head.rows), .sl (F 9) 1 (rIntSS e.model.head.scales), .raw (.int .i64 e.model.head.mul), .raw (.int .i64 e.model.head.shift), .sl (F 12) 1 (rIntSS e.model.turns.cos), .sl (F 13) 1 (rIntSS e.model.turns.sin), .sl (F 14) 1 (ints e.store.refs), .sl (F 15) 1 (rCellSS e.store.pages), .sl (F 16) 10 (rRequestS e.requests)]⟩ ∧ look s2 31 .mk = .raw (.int .i64 (k : Nat)) ∧ look s2 6 .mk = .raw (.int .i64 (cntN (fun i => decide (e.store.refs.getD i default > 1)) k : Nat)) ∧ m2 + k = e.store.refs.length) e.store.refs.length ?_ ?_
  · exact ⟨0, hle, hnn, by simp -dsimp -implicitDefEqProofs only [go_sem, Nat.reduceBEq, Nat.reduceAdd, Nat.reduceLeDiff, Nat.reduceMul, Int.reduceLE, Int.reduceLT, Int.reduceBEq, ra], by simp -dsimp -implicitDefEqProofs only [go_sem, Nat.reduceBEq, Nat.reduceAdd, Nat.reduceLeDiff, Nat.reduceMul, Int.reduceLE, Int.reduceLT, Int.reduceBEq], by simp -dsimp -implicitDefEqProofs only [go_sem, Nat.reduceBEq, Nat.reduceAdd, Nat.reduceLeDiff, Nat.reduceMul, Int.reduceLE, Int.reduceLT, Int.reduceBEq, hks] <;> rfl, by omega⟩
  rintro m2 s2 h2' hks2 ⟨k, hle2, hnn2, rb, ek, e6, hm2⟩
  simp -dsimp -implicitDefEqProofs only [go_sem, Nat.reduceBEq, Nat.reduceAdd, Nat.reduceLeDiff, Nat.reduceMul, Int.reduceLE, Int.reduceLT, Int.reduceBEq, hks, e5'] at hks2
  by_cases q3 : (k : Int) < (e.store.refs.length : Int)
  · have q4 : k < e.store.refs.length := by omega
    have w1 : IntKind.i64.wrap ((k : Int) + 1) = ((k + 1 : Nat) : Int) := by rw [wrap_i64] <;> omega
    have hc := cntN_le (p := fun i => decide (e.store.refs.getD i default > 1)) k
    cases hp : decide (e.store.refs.getD k default > 1)
    · repeat (first | rw [kz_o] | rw [kz_r0] | simp -dsimp -implicitDefEqProofs only [go_sem, Nat.reduceBEq, Nat.reduceAdd, Nat.reduceLeDiff, Nat.reduceMul, Int.reduceLE, Int.reduceLT, Int.reduceBEq, hks, hks2, ek, e6, q3, q4, rb, hp, w1])
      exact nx_keep (m2 - 1) (by omega) (by simp -dsimp -implicitDefEqProofs only [go_sem, Nat.reduceBEq, Nat.reduceAdd, Nat.reduceLeDiff, Nat.reduceMul, Int.reduceLE, Int.reduceLT, Int.reduceBEq, hks, hks2]) ⟨k + 1, hle2, hnn2, by simp -dsimp -implicitDefEqProofs only [go_sem, Nat.reduceBEq, Nat.reduceAdd, Nat.reduceLeDiff, Nat.reduceMul, Int.reduceLE, Int.reduceLT, Int.reduceBEq, rb], by simp -dsimp -implicitDefEqProofs only [go_sem, Nat.reduceBEq, Nat.reduceAdd, Nat.reduceLeDiff, Nat.reduceMul, Int.reduceLE, Int.reduceLT, Int.reduceBEq, w1], by simp -dsimp -implicitDefEqProofs only [go_sem, Nat.reduceBEq, Nat.reduceAdd, Nat.reduceLeDiff, Nat.reduceMul, Int.reduceLE, Int.reduceLT, Int.reduceBEq, e6]; exact congrArg (fun n : Nat => X.raw (Value.int IntKind.i64 (n : Int))) (cntN_f (p := fun i => decide (e.store.refs.getD i default > 1)) hp).symm, by omega⟩
    · have w2 : IntKind.i64.wrap (((cntN (fun i => decide (e.store.refs.getD i default > 1)) k : Nat) : Int) + 1) = ((cntN (fun i => decide (e.store.refs.getD i default > 1)) k + 1 : Nat) : Int) := by rw [wrap_i64] <;> omega
      repeat (first | rw [kz_o] | rw [kz_r0] | simp -dsimp -implicitDefEqProofs only [go_sem, Nat.reduceBEq, Nat.reduceAdd, Nat.reduceLeDiff, Nat.reduceMul, Int.reduceLE, Int.reduceLT, Int.reduceBEq, hks, hks2, ek, e6, q3, q4, rb, hp, w1, w2])
      exact nx_keep (m2 - 1) (by omega) (by simp -dsimp -implicitDefEqProofs only [go_sem, Nat.reduceBEq, Nat.reduceAdd, Nat.reduceLeDiff, Nat.reduceMul, Int.reduceLE, Int.reduceLT, Int.reduceBEq, hks, hks2]) ⟨k + 1, hle2, hnn2, by simp -dsimp -implicitDefEqProofs only [go_sem, Nat.reduceBEq, Nat.reduceAdd, Nat.reduceLeDiff, Nat.reduceMul, Int.reduceLE, Int.reduceLT, Int.reduceBEq, rb], by simp -dsimp -implicitDefEqProofs only [go_sem, Nat.reduceBEq, Nat.reduceAdd, Nat.reduceLeDiff, Nat.reduceMul, Int.reduceLE, Int.reduceLT, Int.reduceBEq, w1], by simp -dsimp -implicitDefEqProofs only [go_sem, Nat.reduceBEq, Nat.reduceAdd, Nat.reduceLeDiff, Nat.reduceMul, Int.reduceLE, Int.reduceLT, Int.reduceBEq, e6]; exact congrArg (fun n : Nat => X.raw (Value.int IntKind.i64 (n : Int))) (cntN_t (p := fun i => decide (e.store.refs.getD i default > 1)) hp).symm, by omega⟩
  have hk : k = e.store.refs.length := by omega
  have e6' : look s2 6 .mk = .raw (.int .i64 (sharedN e : Nat)) := by rw [e6, hk]; rfl
  repeat (first | rw [kz_o] | rw [kz_r0] | simp -dsimp -implicitDefEqProofs only [go_sem, Nat.reduceBEq, Nat.reduceAdd, Nat.reduceLeDiff, Nat.reduceMul, Int.reduceLE, Int.reduceLT, Int.reduceBEq, hks, hks2, ek, e6', q3, rb])
  refine pw_intro (implFree_ok (f := F 14) (r := e.store.refs) hrf) ?_
  rintro _ n3 hn3 rfl
  first | (rw [kz_r]; refine ⟨by simp -dsimp -implicitDefEqProofs only [go_sem, Nat.reduceBEq, Nat.reduceAdd, Nat.reduceLeDiff, Nat.reduceMul, Int.reduceLE, Int.reduceLT, Int.reduceBEq, hks, hks2, rb], ?_⟩) | skip
  repeat (first | rw [kz_o] | rw [kz_r0] | simp -dsimp -implicitDefEqProofs only [go_sem, Nat.reduceBEq, Nat.reduceAdd, Nat.reduceLeDiff, Nat.reduceMul, Int.reduceLE, Int.reduceLT, Int.reduceBEq, hks, hks2, e6'])
  exact ⟨le_up hle2 hn3, .inr ⟨[_, _, _], rfl⟩, census_t h1⟩
theorem specCensus_ok {F : Nat → Adr} {e : LEngine} {g : H2} (hs : smallEng e) (hrg : rngEngine e) : PW Tryz.prog W0 22 [.st (xEngine F e)] g (fun y => y = .tp [.raw (.int .i64 (cn1 e)), .raw (.int .i64 (cn2 e)), .raw (.int .i64 (cn3 e))]) := by
  obtain ⟨_, hrf, _, _, _⟩ := id hs
  refine PW.plainK ?_
  refine start (P := Tryz.prog) [[0], [1], [1, 5], [1, 5, 6], [], [1, 5, 6], [1, 5, 6, 7], [1, 5, 6, 7], [1, 5, 6, 7], [1, 5, 6, 7], [1, 5, 6], [1, 5, 6, 8], [1, 5, 6, 8], [1, 5, 6, 8], [1, 5, 6, 8], [1, 5, 6]] (by kernel_rfl) Tryz.func22 rfl (by decide) (by decide +kernel) (rs := [.tmp 2, .tmp 3, .tmp 4]) rfl rfl (Nat.le_of_ble_eq_true rfl) ?_
  intro wf
  repeat (first | rw [kz_o] | rw [kz_r0] | simp -dsimp -implicitDefEqProofs only [go_sem, Nat.reduceBEq, Nat.reduceAdd, Nat.reduceLeDiff, Nat.reduceMul, Int.reduceLE, Int.reduceLT, Int.reduceBEq, hoo])
  refine pw_intro (specEngine_ok (F := F) hs hrg) ?_
  rintro _ n1 hn1 rfl
  simp only [hn_push] at hn1
  have L1 : ∀ k : OB, g.le ((g.push k).up n1) := fun k => le_up (le_push (H2.le.refl _)) (by rw [hn_push]; exact hn1)
  first | (rw [kz_r]; refine ⟨by simp -dsimp -implicitDefEqProofs only [go_sem, Nat.reduceBEq, Nat.reduceAdd, Nat.reduceLeDiff, Nat.reduceMul, Int.reduceLE, Int.reduceLT, Int.reduceBEq, hoo], ?_⟩) | skip
  cases h1 : engB e
  · repeat (first | rw [kz_o] | rw [kz_r0] | simp -dsimp -implicitDefEqProofs only [go_sem, Nat.reduceBEq, Nat.reduceAdd, Nat.reduceLeDiff, Nat.reduceMul, Int.reduceLE, Int.reduceLT, Int.reduceBEq, hoo])
    exact ⟨L1 _, .inr ⟨[_, _, _], rfl⟩, census_f h1⟩
  repeat (first | rw [kz_o] | rw [kz_r0] | simp -dsimp -implicitDefEqProofs only [go_sem, Nat.reduceBEq, Nat.reduceAdd, Nat.reduceLeDiff, Nat.reduceMul, Int.reduceLE, Int.reduceLT, Int.reduceBEq, hoo])
  refine lz_keep [1, 6] (fun m s h' => ∃ (i : Nat), g.le h' ∧ hn g .mk + 1 ≤ hn h' .mk ∧ hg h' (hn g .mk) .mk = some ⟨17, [.raw (.int .i64 e.model.dim), .raw (.int .i64 e.model.heads), .raw (.int .i64 e.model.context), .sl (F 3) 2 (rMergeS e.model.merges), .sl (F 4) 1 (rIntSS e.model.embed), .sl (F 5) 32 (rLayerS e.model.layers), .sl (F 6) 1 (ints e.model.gainEnd), .raw (.int .i64 e.model.head.width), .sl (F 8) 1 (rIntSS e.model.head.rows), .sl (F 9) 1 (rIntSS e.model.head.scales), .raw (.int .i64 e.model.head.mul), .raw (.int .i64 e.model.head.shift), .sl (F 12) 1 (rIntSS e.model.turns.cos), .sl (F 13) 1 (rIntSS e.model.turns.sin), .sl (F 14) 1 (ints e.store.refs), .sl (F 15) 1 (rCellSS e.store.pages), .sl (F 16) 10 (rRequestS e.requests)]⟩ ∧ look s 7 .mk = .raw (.int .i64 (i : Nat)) ∧ look s 5 .mk = .raw (.int .i64 (cntN (fun i => decide ((e.requests.getD i default).status = 0)) i : Nat)) ∧ m + i = e.requests.length) e.requests.length ?_ ?_
  · exact ⟨0, L1 _, by rw [hn_up]; omega, by simp -dsimp -implicitDefEqProofs only [go_sem, Nat.reduceBEq, Nat.reduceAdd, Nat.reduceLeDiff, Nat.reduceMul, Int.reduceLE, Int.reduceLT, Int.reduceBEq, hoo] <;> rfl, by simp -dsimp -implicitDefEqProofs only [go_sem, Nat.reduceBEq, Nat.reduceAdd, Nat.reduceLeDiff, Nat.reduceMul, Int.reduceLE, Int.reduceLT, Int.reduceBEq], by simp -dsimp -implicitDefEqProofs only [go_sem, Nat.reduceBEq, Nat.reduceAdd, Nat.reduceLeDiff, Nat.reduceMul, Int.reduceLE, Int.reduceLT, Int.reduceBEq] <;> rfl, by omega⟩
  rintro m s h' hks ⟨i, hle, hnn, ra, ei, e5, hm⟩
  simp -dsimp -implicitDefEqProofs only [go_sem, Nat.reduceBEq, Nat.reduceAdd, Nat.reduceLeDiff, Nat.reduceMul, Int.reduceLE, Int.reduceLT, Int.reduceBEq] at hks
  by_cases q1 : (i : Int) < (e.requests.length : Int)
  · have q2 : i < e.requests.length := by omega
    have w1 : IntKind.i64.wrap ((i : Int) + 1) = ((i + 1 : Nat) : Int) := by rw [wrap_i64] <;> omega
    have hc := cntN_le (p := fun i => decide ((e.requests.getD i default).status = 0)) i
    cases hp : decide ((e.requests.getD i default).status = 0)
    · repeat (first | rw [kz_o] | rw [kz_r0] | simp -dsimp -implicitDefEqProofs only [go_sem, Nat.reduceBEq, Nat.reduceAdd, Nat.reduceLeDiff, Nat.reduceMul, Int.reduceLE, Int.reduceLT, Int.reduceBEq, hks, ei, e5, q1, q2, ra, hp, w1])
      exact nx_keep (m - 1) (by omega) (by simp -dsimp -implicitDefEqProofs only [go_sem, Nat.reduceBEq, Nat.reduceAdd, Nat.reduceLeDiff, Nat.reduceMul, Int.reduceLE, Int.reduceLT, Int.reduceBEq, hks]) ⟨i + 1, hle, hnn, by simp -dsimp -implicitDefEqProofs only [go_sem, Nat.reduceBEq, Nat.reduceAdd, Nat.reduceLeDiff, Nat.reduceMul, Int.reduceLE, Int.reduceLT, Int.reduceBEq, ra] <;> rfl, by simp -dsimp -implicitDefEqProofs only [go_sem, Nat.reduceBEq, Nat.reduceAdd, Nat.reduceLeDiff, Nat.reduceMul, Int.reduceLE, Int.reduceLT, Int.reduceBEq, w1], by simp -dsimp -implicitDefEqProofs only [go_sem, Nat.reduceBEq, Nat.reduceAdd, Nat.reduceLeDiff, Nat.reduceMul, Int.reduceLE, Int.reduceLT, Int.reduceBEq, e5]; exact congrArg (fun n : Nat => X.raw (Value.int IntKind.i64 (n : Int))) (cntN_f (p := fun i => decide ((e.requests.getD i default).status = 0)) hp).symm, by omega⟩
    · have w2 : IntKind.i64.wrap (((cntN (fun i => decide ((e.requests.getD i default).status = 0)) i : Nat) : Int) + 1) = ((cntN (fun i => decide ((e.requests.getD i default).status = 0)) i + 1 : Nat) : Int) := by rw [wrap_i64] <;> omega
      repeat (first | rw [kz_o] | rw [kz_r0] | simp -dsimp -implicitDefEqProofs only [go_sem, Nat.reduceBEq, Nat.reduceAdd, Nat.reduceLeDiff, Nat.reduceMul, Int.reduceLE, Int.reduceLT, Int.reduceBEq, hks, ei, e5, q1, q2, ra, hp, w1, w2])
      exact nx_keep (m - 1) (by omega) (by simp -dsimp -implicitDefEqProofs only [go_sem, Nat.reduceBEq, Nat.reduceAdd, Nat.reduceLeDiff, Nat.reduceMul, Int.reduceLE, Int.reduceLT, Int.reduceBEq, hks]) ⟨i + 1, hle, hnn, by simp -dsimp -implicitDefEqProofs only [go_sem, Nat.reduceBEq, Nat.reduceAdd, Nat.reduceLeDiff, Nat.reduceMul, Int.reduceLE, Int.reduceLT, Int.reduceBEq, ra] <;> rfl, by simp -dsimp -implicitDefEqProofs only [go_sem, Nat.reduceBEq, Nat.reduceAdd, Nat.reduceLeDiff, Nat.reduceMul, Int.reduceLE, Int.reduceLT, Int.reduceBEq, w1], by simp -dsimp -implicitDefEqProofs only [go_sem, Nat.reduceBEq, Nat.reduceAdd, Nat.reduceLeDiff, Nat.reduceMul, Int.reduceLE, Int.reduceLT, Int.reduceBEq, e5]; exact congrArg (fun n : Nat => X.raw (Value.int IntKind.i64 (n : Int))) (cntN_t (p := fun i => decide ((e.requests.getD i default).status = 0)) hp).symm, by omega⟩
  have hi : i = e.requests.length := by omega
  have e5' : look s 5 .mk = .raw (.int .i64 (liveN e : Nat)) := by rw [e5, hi]; rfl
  repeat (first | rw [kz_o] | rw [kz_r0] | simp -dsimp -implicitDefEqProofs only [go_sem, Nat.reduceBEq, Nat.reduceAdd, Nat.reduceLeDiff, Nat.reduceMul, Int.reduceLE, Int.reduceLT, Int.reduceBEq, hks, ei, e5', q1, ra])
  refine lz_keep [1, 5] (fun m2 s2 h2' => ∃ (k : Nat), g.le h2' ∧ hn g .mk + 1 ≤ hn h2' .mk ∧ hg h2' (hn g .mk) .mk = some ⟨17, [.raw (.int .i64 e.model.dim), .raw (.int .i64 e.model.heads), .raw (.int .i64 e.model.context), .sl (F 3) 2 (rMergeS e.model.merges), .sl (F 4) 1 (rIntSS e.model.embed), .sl (F 5) 32 (rLayerS e.model.layers), .sl (F 6) 1 (ints e.model.gainEnd), .raw (.int .i64 e.model.head.width), .sl (F 8) 1 (rIntSS e.model.head.rows), .sl (F 9) 1 (rIntSS e.model.head.scales), .raw (.int .i64 e.model.head.mul), .raw (.int .i64 e.model.head.shift), .sl (F 12) 1 (rIntSS e.model.turns.cos), .sl (F 13) 1 (rIntSS e.model.turns.sin), .sl (F 14) 1 (ints e.store.refs), .sl (F 15) 1 (rCellSS e.store.pages), .sl (F 16) 10 (rRequestS e.requests)]⟩ ∧ look s2 8 .mk = .raw (.int .i64 (k : Nat)) ∧ look s2 6 .mk = .raw (.int .i64 (cntN (fun i => decide (e.store.refs.getD i default > 1)) k : Nat)) ∧ m2 + k = e.store.refs.length) e.store.refs.length ?_ ?_
  · exact ⟨0, hle, hnn, by simp -dsimp -implicitDefEqProofs only [go_sem, Nat.reduceBEq, Nat.reduceAdd, Nat.reduceLeDiff, Nat.reduceMul, Int.reduceLE, Int.reduceLT, Int.reduceBEq, ra], by simp -dsimp -implicitDefEqProofs only [go_sem, Nat.reduceBEq, Nat.reduceAdd, Nat.reduceLeDiff, Nat.reduceMul, Int.reduceLE, Int.reduceLT, Int.reduceBEq], by simp -dsimp -implicitDefEqProofs only [go_sem, Nat.reduceBEq, Nat.reduceAdd, Nat.reduceLeDiff, Nat.reduceMul, Int.reduceLE, Int.reduceLT, Int.reduceBEq, hks] <;> rfl, by omega⟩
  rintro m2 s2 h2' hks2 ⟨k, hle2, hnn2, rb, ek, e6, hm2⟩
  simp -dsimp -implicitDefEqProofs only [go_sem, Nat.reduceBEq, Nat.reduceAdd, Nat.reduceLeDiff, Nat.reduceMul, Int.reduceLE, Int.reduceLT, Int.reduceBEq, hks, e5'] at hks2
  by_cases q3 : (k : Int) < (e.store.refs.length : Int)
  · have q4 : k < e.store.refs.length := by omega
    have w1 : IntKind.i64.wrap ((k : Int) + 1) = ((k + 1 : Nat) : Int) := by rw [wrap_i64] <;> omega
    have hc := cntN_le (p := fun i => decide (e.store.refs.getD i default > 1)) k
    cases hp : decide (e.store.refs.getD k default > 1)
    · repeat (first | rw [kz_o] | rw [kz_r0] | simp -dsimp -implicitDefEqProofs only [go_sem, Nat.reduceBEq, Nat.reduceAdd, Nat.reduceLeDiff, Nat.reduceMul, Int.reduceLE, Int.reduceLT, Int.reduceBEq, hks, hks2, ek, e6, q3, q4, rb, hp, w1])
      exact nx_keep (m2 - 1) (by omega) (by simp -dsimp -implicitDefEqProofs only [go_sem, Nat.reduceBEq, Nat.reduceAdd, Nat.reduceLeDiff, Nat.reduceMul, Int.reduceLE, Int.reduceLT, Int.reduceBEq, hks, hks2]) ⟨k + 1, hle2, hnn2, by simp -dsimp -implicitDefEqProofs only [go_sem, Nat.reduceBEq, Nat.reduceAdd, Nat.reduceLeDiff, Nat.reduceMul, Int.reduceLE, Int.reduceLT, Int.reduceBEq, rb], by simp -dsimp -implicitDefEqProofs only [go_sem, Nat.reduceBEq, Nat.reduceAdd, Nat.reduceLeDiff, Nat.reduceMul, Int.reduceLE, Int.reduceLT, Int.reduceBEq, w1], by simp -dsimp -implicitDefEqProofs only [go_sem, Nat.reduceBEq, Nat.reduceAdd, Nat.reduceLeDiff, Nat.reduceMul, Int.reduceLE, Int.reduceLT, Int.reduceBEq, e6]; exact congrArg (fun n : Nat => X.raw (Value.int IntKind.i64 (n : Int))) (cntN_f (p := fun i => decide (e.store.refs.getD i default > 1)) hp).symm, by omega⟩
    · have w2 : IntKind.i64.wrap (((cntN (fun i => decide (e.store.refs.getD i default > 1)) k : Nat) : Int) + 1) = ((cntN (fun i => decide (e.store.refs.getD i default > 1)) k + 1 : Nat) : Int) := by rw [wrap_i64] <;> omega
      repeat (first | rw [kz_o] | rw [kz_r0] | simp -dsimp -implicitDefEqProofs only [go_sem, Nat.reduceBEq, Nat.reduceAdd, Nat.reduceLeDiff, Nat.reduceMul, Int.reduceLE, Int.reduceLT, Int.reduceBEq, hks, hks2, ek, e6, q3, q4, rb, hp, w1, w2])
      exact nx_keep (m2 - 1) (by omega) (by simp -dsimp -implicitDefEqProofs only [go_sem, Nat.reduceBEq, Nat.reduceAdd, Nat.reduceLeDiff, Nat.reduceMul, Int.reduceLE, Int.reduceLT, Int.reduceBEq, hks, hks2]) ⟨k + 1, hle2, hnn2, by simp -dsimp -implicitDefEqProofs only [go_sem, Nat.reduceBEq, Nat.reduceAdd, Nat.reduceLeDiff, Nat.reduceMul, Int.reduceLE, Int.reduceLT, Int.reduceBEq, rb], by simp -dsimp -implicitDefEqProofs only [go_sem, Nat.reduceBEq, Nat.reduceAdd, Nat.reduceLeDiff, Nat.reduceMul, Int.reduceLE, Int.reduceLT, Int.reduceBEq, w1], by simp -dsimp -implicitDefEqProofs only [go_sem, Nat.reduceBEq, Nat.reduceAdd, Nat.reduceLeDiff, Nat.reduceMul, Int.reduceLE, Int.reduceLT, Int.reduceBEq, e6]; exact congrArg (fun n : Nat => X.raw (Value.int IntKind.i64 (n : Int))) (cntN_t (p := fun i => decide (e.store.refs.getD i default > 1)) hp).symm, by omega⟩
  have hk : k = e.store.refs.length := by omega
  have e6' : look s2 6 .mk = .raw (.int .i64 (sharedN e : Nat)) := by rw [e6, hk]; rfl
  repeat (first | rw [kz_o] | rw [kz_r0] | simp -dsimp -implicitDefEqProofs only [go_sem, Nat.reduceBEq, Nat.reduceAdd, Nat.reduceLeDiff, Nat.reduceMul, Int.reduceLE, Int.reduceLT, Int.reduceBEq, hks, hks2, ek, e6', q3, rb])
  refine pw_intro (specFree_ok (f := F 14) (r := e.store.refs) hrf) ?_
  rintro _ n3 hn3 rfl
  first | (rw [kz_r]; refine ⟨by simp -dsimp -implicitDefEqProofs only [go_sem, Nat.reduceBEq, Nat.reduceAdd, Nat.reduceLeDiff, Nat.reduceMul, Int.reduceLE, Int.reduceLT, Int.reduceBEq, hks, hks2, rb], ?_⟩) | skip
  repeat (first | rw [kz_o] | rw [kz_r0] | simp -dsimp -implicitDefEqProofs only [go_sem, Nat.reduceBEq, Nat.reduceAdd, Nat.reduceLeDiff, Nat.reduceMul, Int.reduceLE, Int.reduceLT, Int.reduceBEq, hks, hks2, e6'])
  exact ⟨le_up hle2 hn3, .inr ⟨[_, _, _], rfl⟩, census_t h1⟩
theorem implCensus_tree {e : LEngine} {g : H2} {bs : List Nat} {ys : List X} (o : OTs g bs ys (eEngine e)) (hs : smallEng e) (hr : rngEngine e) :
    WC2 Tryz.prog W0 23 [.st ys] g (fun x g' => g.le g' ∧ x = .tp [.raw (.int .i64 (cn1 e)), .raw (.int .i64 (cn2 e)), .raw (.int .i64 (cn3 e))]) := by
  obtain ⟨F, hF⟩ := o.lent
  have c1 : PW Tryz.prog W0 23 [.st ys] g (fun r => r = .tp [.raw (.int .i64 (cn1 e)), .raw (.int .i64 (cn2 e)), .raw (.int .i64 (cn3 e))]) := PW.lend (.cons hF .nil) (implCensus_ok (F := F) hs hr) (fun y h => by
    rw [h]
    exact .tp fun x hx => by
      simp only [List.mem_cons, List.not_mem_nil, or_false] at hx
      rcases hx with rfl | rfl | rfl <;> exact .raw)
  refine WC2.mono c1 ?_
  rintro x g' ⟨h1, h2, h3⟩
  exact ⟨by rw [h1]; exact le_up (H2.le.refl _) h2, h3⟩
theorem specCensus_tree {e : LEngine} {g : H2} {bs : List Nat} {ys : List X} (o : OTs g bs ys (eEngine e)) (hs : smallEng e) (hr : rngEngine e) :
    WC2 Tryz.prog W0 22 [.st ys] g (fun x g' => g.le g' ∧ x = .tp [.raw (.int .i64 (cn1 e)), .raw (.int .i64 (cn2 e)), .raw (.int .i64 (cn3 e))]) := by
  obtain ⟨F, hF⟩ := o.lent
  have c1 : PW Tryz.prog W0 22 [.st ys] g (fun r => r = .tp [.raw (.int .i64 (cn1 e)), .raw (.int .i64 (cn2 e)), .raw (.int .i64 (cn3 e))]) := PW.lend (.cons hF .nil) (specCensus_ok (F := F) hs hr) (fun y h => by
    rw [h]
    exact .tp fun x hx => by
      simp only [List.mem_cons, List.not_mem_nil, or_false] at hx
      rcases hx with rfl | rfl | rfl <;> exact .raw)
  refine WC2.mono c1 ?_
  rintro x g' ⟨h1, h2, h3⟩
  exact ⟨by rw [h1]; exact le_up (H2.le.refl _) h2, h3⟩
end Go.Bi
end
