/- Own lemmas that the theorem of this claim needs: the abstract machine and walks of functions. -/
import Derived.Test.YtjofbadmkigkjaaGreatMlLawAA
import Derived.Test.YtjofbadmkigkjaaGreatMlLawAB
import Derived.Test.YtjofbadmkigkjaaGreatMlLawAC
import Derived.Test.YtjofbadmkigkjaaGreatMlLawAD
import Derived.Test.YtjofbadmkigkjaaGreatMlLawAE
import Derived.Test.YtjofbadmkigkjaaGreatMlLawAF
import Derived.Test.YtjofbadmkigkjaaGreatMlLawAG
import Derived.Test.YtjofbadmkigkjaaGreatMlLawAH
import Derived.Test.YtjofbadmkigkjaaGreatMlLawAI
import Derived.Test.YtjofbadmkigkjaaGreatMlLawAJ
import Derived.Test.YtjofbadmkigkjaaGreatMlLawAK
import Derived.Test.YtjofbadmkigkjaaGreatMlLawAL
import Derived.Test.YtjofbadmkigkjaaGreatMlLawAM
import Derived.Test.YtjofbadmkigkjaaGreatMlLawAN
import Derived.Lib.IndexMore
import Derived.Test.YtjofbadmkigkjaaGreatProg
import Derived.Shelf.Strings.Shaped
section
set_option linter.unusedSimpArgs false
set_option linter.unusedVariables false
set_option maxRecDepth 20000
namespace Go.Bi
open Go.Proofs
open Go.Ai (wrap_i64 wrap_u8 Heap)
variable {W0 : World} {P : Program}
set_option maxHeartbeats 4000000
theorem implModel_ok {F : Nat → Adr} {m : LModel} {g : H2} (hs : smallMod m) : PW Tryz.prog W0 48 [.st (xModel F m)] g (fun y => y = .raw (.bool (modelB m))) := by
  obtain ⟨s1, s2, s3, s4, s5, s6, s7, s8⟩ := hs
  refine PW.scalar ?_
  refine start (P := Tryz.prog) [[0], [1], [], [1], [], [1], [], [1]] (by kernel_rfl) Tryz.func48 rfl (by decide) (by decide +kernel) (rs := [.tmp 2]) rfl rfl (Nat.le_of_ble_eq_true rfl) ?_
  intro wf
  repeat (first | rw [kz_o] | rw [kz_r0] | simp -dsimp -implicitDefEqProofs only [go_sem, Nat.reduceBEq, Nat.reduceAdd, Nat.reduceLeDiff, Nat.reduceMul, Int.reduceLE, Int.reduceLT, Int.reduceBEq, hoo])
  refine dq_intro [(0, []), (1, []), (2, []), (3, []), (4, []), (5, []), (6, []), (7, []), (8, []), (9, []), (10, []), (11, []), (12, []), (13, []), (14, []), (15, []), (16, []), (17, []), (18, []), (19, []), (20, []), (21, [18]), (22, []), (23, []), (24, []), (25, []), (26, []), (27, []), (28, []), (29, []), (30, [])] (by kernel_rfl) ?_
  repeat (first | rw [kz_o] | rw [kz_r0] | simp -dsimp -implicitDefEqProofs only [go_sem, Nat.reduceBEq, Nat.reduceAdd, Nat.reduceLeDiff, Nat.reduceMul, Int.reduceLE, Int.reduceLT, Int.reduceBEq, hoo])
  refine wz_intro isWidth_ok ?_
  rintro _ _ ⟨rfl, rfl⟩
  cases h1 : widthB m.dim
  · repeat (first | rw [kz_o] | rw [kz_r0] | simp -dsimp -implicitDefEqProofs only [go_sem, Nat.reduceBEq, Nat.reduceAdd, Nat.reduceLeDiff, Nat.reduceMul, Int.reduceLE, Int.reduceLT, Int.reduceBEq, hoo])
    exact ⟨le_push (H2.le.refl _), ⟨_, rfl⟩, by rw [modelB, h1]; rfl⟩
  repeat (first | rw [kz_o] | rw [kz_r0] | simp -dsimp -implicitDefEqProofs only [go_sem, Nat.reduceBEq, Nat.reduceAdd, Nat.reduceLeDiff, Nat.reduceMul, Int.reduceLE, Int.reduceLT, Int.reduceBEq, hoo])
  refine wz_intro in_ok ?_
  rintro _ _ ⟨rfl, rfl⟩
  cases h2 : inI m.heads 1 2
  · repeat (first | rw [kz_o] | rw [kz_r0] | simp -dsimp -implicitDefEqProofs only [go_sem, Nat.reduceBEq, Nat.reduceAdd, Nat.reduceLeDiff, Nat.reduceMul, Int.reduceLE, Int.reduceLT, Int.reduceBEq, hoo])
    exact ⟨le_push (H2.le.refl _), ⟨_, rfl⟩, by rw [modelB, h1, h2]; rfl⟩
  repeat (first | rw [kz_o] | rw [kz_r0] | simp -dsimp -implicitDefEqProofs only [go_sem, Nat.reduceBEq, Nat.reduceAdd, Nat.reduceLeDiff, Nat.reduceMul, Int.reduceLE, Int.reduceLT, Int.reduceBEq, hoo])
  refine pw_intro (implMergesOk_ok s1) ?_
  rintro _ n1 hn1 rfl
  first | (rw [kz_r]; refine ⟨by simp -dsimp -implicitDefEqProofs only [go_sem, Nat.reduceBEq, Nat.reduceAdd, Nat.reduceLeDiff, Nat.reduceMul, Int.reduceLE, Int.reduceLT, Int.reduceBEq, hoo], ?_⟩) | skip
  cases h3 : mergesB m.merges
  · repeat (first | rw [kz_o] | rw [kz_r0] | simp -dsimp -implicitDefEqProofs only [go_sem, Nat.reduceBEq, Nat.reduceAdd, Nat.reduceLeDiff, Nat.reduceMul, Int.reduceLE, Int.reduceLT, Int.reduceBEq, hoo])
    exact ⟨by repeat (first | exact H2.le.refl _ | apply le_push | refine le_up ?_ (by first | assumption | (simp only [hn_up, hn_push] at *; omega))), ⟨_, rfl⟩, by rw [modelB, h1, h2, h3]; rfl⟩
  repeat (first | rw [kz_o] | rw [kz_r0] | simp -dsimp -implicitDefEqProofs only [go_sem, Nat.reduceBEq, Nat.reduceAdd, Nat.reduceLeDiff, Nat.reduceMul, Int.reduceLE, Int.reduceLT, Int.reduceBEq, hoo])
  refine pw_intro (voc1_ok (F := F) (m := m) s1) ?_
  rintro _ n2 hn2 rfl
  first | (rw [kz_r]; refine ⟨by simp -dsimp -implicitDefEqProofs only [go_sem, Nat.reduceBEq, Nat.reduceAdd, Nat.reduceLeDiff, Nat.reduceMul, Int.reduceLE, Int.reduceLT, Int.reduceBEq, hoo], ?_⟩) | skip
  by_cases h4 : (m.embed.length : Int) = vocI m
  rotate_left
  · have e4 : decide (¬ (m.embed.length : Int) = vocI m) = true := decide_eq_true h4
    repeat (first | rw [kz_o] | rw [kz_r0] | simp -dsimp -implicitDefEqProofs only [go_sem, Nat.reduceBEq, Nat.reduceAdd, Nat.reduceLeDiff, Nat.reduceMul, Int.reduceLE, Int.reduceLT, Int.reduceBEq, hoo, e4])
    exact ⟨by repeat (first | exact H2.le.refl _ | apply le_push | refine le_up ?_ (by first | assumption | (simp only [hn_up, hn_push] at *; omega))), ⟨_, rfl⟩, by rw [modelB, h1, h2, h3, decide_eq_false h4]; rfl⟩
  have e4 : decide (¬ (m.embed.length : Int) = vocI m) = false := decide_eq_false (fun h => h h4)
  repeat (first | rw [kz_o] | rw [kz_r0] | simp -dsimp -implicitDefEqProofs only [go_sem, Nat.reduceBEq, Nat.reduceAdd, Nat.reduceLeDiff, Nat.reduceMul, Int.reduceLE, Int.reduceLT, Int.reduceBEq, hoo, e4])
  refine wz_intro in_ok ?_
  rintro _ _ ⟨rfl, rfl⟩
  first | (rw [kz_r]; refine ⟨by simp -dsimp -implicitDefEqProofs only [go_sem, Nat.reduceBEq, Nat.reduceAdd, Nat.reduceLeDiff, Nat.reduceMul, Int.reduceLE, Int.reduceLT, Int.reduceBEq, hoo], ?_⟩) | skip
  cases h5 : inI m.layers.length 1 2
  · repeat (first | rw [kz_o] | rw [kz_r0] | simp -dsimp -implicitDefEqProofs only [go_sem, Nat.reduceBEq, Nat.reduceAdd, Nat.reduceLeDiff, Nat.reduceMul, Int.reduceLE, Int.reduceLT, Int.reduceBEq, hoo])
    exact ⟨by repeat (first | exact H2.le.refl _ | apply le_push | refine le_up ?_ (by first | assumption | (simp only [hn_up, hn_push] at *; omega))), ⟨_, rfl⟩, by rw [modelB, h1, h2, h3, decide_eq_true h4, h5]; rfl⟩
  repeat (first | rw [kz_o] | rw [kz_r0] | simp -dsimp -implicitDefEqProofs only [go_sem, Nat.reduceBEq, Nat.reduceAdd, Nat.reduceLeDiff, Nat.reduceMul, Int.reduceLE, Int.reduceLT, Int.reduceBEq, hoo])
  simp only [hn_up, hn_push] at hn1 hn2
  refine pw_intro (containsR_ok (F := 125) (p := fun r => !embB m.dim r) (caps := [.pointer (some ⟨hn g .mk, 0, none⟩)]) s2.1 fun i hi f' h' hle => ?_) ?_
  · exact emb1_ok ((hle.2 (hn g .mk) (by simp only [hn_up, hn_push]; omega)).trans (by simp -dsimp -implicitDefEqProofs only [go_sem, Nat.reduceBEq, Nat.reduceAdd, Nat.reduceLeDiff, Nat.reduceMul, Int.reduceLE, Int.reduceLT, Int.reduceBEq, hoo] <;> rfl)) (smallL_at s2 i)
  rintro _ n3 hn3 rfl
  simp only [hn_up, hn_push] at hn3
  cases h6 : m.embed.any fun r => !embB m.dim r
  rotate_left
  · repeat (first | rw [kz_o] | rw [kz_r0] | simp -dsimp -implicitDefEqProofs only [go_sem, Nat.reduceBEq, Nat.reduceAdd, Nat.reduceLeDiff, Nat.reduceMul, Int.reduceLE, Int.reduceLT, Int.reduceBEq, hoo])
    exact ⟨by repeat (first | exact H2.le.refl _ | apply le_push | refine le_up ?_ (by first | assumption | (simp only [hn_up, hn_push] at *; omega))), ⟨_, rfl⟩, by rw [modelB, h1, h2, h3, decide_eq_true h4, h5, h6]; rfl⟩
  repeat (first | rw [kz_o] | rw [kz_r0] | simp -dsimp -implicitDefEqProofs only [go_sem, Nat.reduceBEq, Nat.reduceAdd, Nat.reduceLeDiff, Nat.reduceMul, Int.reduceLE, Int.reduceLT, Int.reduceBEq, hoo])
  refine pw_intro (containsY_ok (F := 127) (p := fun l => !layB l m.dim) (caps := [.pointer (some ⟨hn g .mk, 0, none⟩)]) s3 fun i hi F' h' hle => ?_) ?_
  · refine lay1_ok ?_ ((hle.2 (hn g .mk) (by simp only [hn_up, hn_push]; omega)).trans (by simp -dsimp -implicitDefEqProofs only [go_sem, Nat.reduceBEq, Nat.reduceAdd, Nat.reduceLeDiff, Nat.reduceMul, Int.reduceLE, Int.reduceLT, Int.reduceBEq, hoo] <;> rfl)) (s4 i hi)
    have := hle.1
    simp only [hn_up, hn_push] at this; omega
  rintro _ n4 hn4 rfl
  simp only [hn_up, hn_push] at hn4
  cases h7 : m.layers.any fun l => !layB l m.dim
  rotate_left
  · repeat (first | rw [kz_o] | rw [kz_r0] | simp -dsimp -implicitDefEqProofs only [go_sem, Nat.reduceBEq, Nat.reduceAdd, Nat.reduceLeDiff, Nat.reduceMul, Int.reduceLE, Int.reduceLT, Int.reduceBEq, hoo])
    exact ⟨by repeat (first | exact H2.le.refl _ | apply le_push | refine le_up ?_ (by first | assumption | (simp only [hn_up, hn_push] at *; omega))), ⟨_, rfl⟩, by rw [modelB, h1, h2, h3, decide_eq_true h4, h5, h6, h7]; rfl⟩
  repeat (first | rw [kz_o] | rw [kz_r0] | simp -dsimp -implicitDefEqProofs only [go_sem, Nat.reduceBEq, Nat.reduceAdd, Nat.reduceLeDiff, Nat.reduceMul, Int.reduceLE, Int.reduceLT, Int.reduceBEq, hoo])
  refine dq_intro [(0, []), (1, []), (2, []), (3, []), (4, []), (5, []), (6, []), (7, []), (8, []), (9, []), (10, []), (11, [7, 9]), (12, []), (13, []), (14, []), (15, []), (16, []), (17, []), (18, []), (19, []), (20, []), (21, []), (22, []), (23, []), (24, []), (25, []), (26, []), (27, [])] (by kernel_rfl) ?_
  repeat (first | rw [kz_o] | rw [kz_r0] | simp -dsimp -implicitDefEqProofs only [go_sem, Nat.reduceBEq, Nat.reduceAdd, Nat.reduceLeDiff, Nat.reduceMul, Int.reduceLE, Int.reduceLT, Int.reduceBEq, hoo])
  refine pw_intro (implGain_ok s5) ?_
  rintro _ n5 hn5 rfl
  simp only [hn_up, hn_push] at hn5
  first | (rw [kz_r]; refine ⟨by simp -dsimp -implicitDefEqProofs only [go_sem, Nat.reduceBEq, Nat.reduceAdd, Nat.reduceLeDiff, Nat.reduceMul, Int.reduceLE, Int.reduceLT, Int.reduceBEq, hoo], ?_⟩) | skip
  cases h8 : gainB m.gainEnd m.dim
  · repeat (first | rw [kz_o] | rw [kz_r0] | simp -dsimp -implicitDefEqProofs only [go_sem, Nat.reduceBEq, Nat.reduceAdd, Nat.reduceLeDiff, Nat.reduceMul, Int.reduceLE, Int.reduceLT, Int.reduceBEq, hoo])
    exact ⟨by repeat (first | exact H2.le.refl _ | apply le_push | refine le_up ?_ (by first | assumption | (simp only [hn_up, hn_push] at *; omega))), ⟨_, rfl⟩, by rw [modelB, h1, h2, h3, decide_eq_true h4, h5, h6, h7, h8]; rfl⟩
  repeat (first | rw [kz_o] | rw [kz_r0] | simp -dsimp -implicitDefEqProofs only [go_sem, Nat.reduceBEq, Nat.reduceAdd, Nat.reduceLeDiff, Nat.reduceMul, Int.reduceLE, Int.reduceLT, Int.reduceBEq, hoo])
  refine pw_intro (voc1_ok (F := F) (m := m) s1) ?_
  rintro _ n6 hn6 rfl
  simp only [hn_up, hn_push] at hn6
  first | (rw [kz_r]; refine ⟨by simp -dsimp -implicitDefEqProofs only [go_sem, Nat.reduceBEq, Nat.reduceAdd, Nat.reduceLeDiff, Nat.reduceMul, Int.reduceLE, Int.reduceLT, Int.reduceBEq, hoo], ?_⟩) | skip
  repeat (first | rw [kz_o] | rw [kz_r0] | simp -dsimp -implicitDefEqProofs only [go_sem, Nat.reduceBEq, Nat.reduceAdd, Nat.reduceLeDiff, Nat.reduceMul, Int.reduceLE, Int.reduceLT, Int.reduceBEq, hoo])
  refine pw_intro (implWithin_ok (F := fun j => F (j + 7)) (m := m.head) s6) ?_
  rintro _ n7 hn7 rfl
  simp only [hn_up, hn_push] at hn7
  first | (rw [kz_r]; refine ⟨by simp -dsimp -implicitDefEqProofs only [go_sem, Nat.reduceBEq, Nat.reduceAdd, Nat.reduceLeDiff, Nat.reduceMul, Int.reduceLE, Int.reduceLT, Int.reduceBEq, hoo], ?_⟩) | skip
  cases h9 : withB m.head m.dim (vocI m)
  · repeat (first | rw [kz_o] | rw [kz_r0] | simp -dsimp -implicitDefEqProofs only [go_sem, Nat.reduceBEq, Nat.reduceAdd, Nat.reduceLeDiff, Nat.reduceMul, Int.reduceLE, Int.reduceLT, Int.reduceBEq, hoo])
    exact ⟨by repeat (first | exact H2.le.refl _ | apply le_push | refine le_up ?_ (by first | assumption | (simp only [hn_up, hn_push] at *; omega))), ⟨_, rfl⟩, by rw [modelB, h1, h2, h3, decide_eq_true h4, h5, h6, h7, h8, h9]; rfl⟩
  have hw := width_rng h1
  have hh : m.heads = 1 ∨ m.heads = 2 := by have := inI_tt h2; omega
  have z0 : (m.heads == 0) = false := by simp; omega
  have w1 : IntKind.i64.wrap (Int.tdiv m.dim m.heads) = Int.tdiv m.dim m.heads := by
    rcases hw with hw | hw <;> rcases hh with hh | hh <;> rw [hw, hh] <;> decide
  have w2 : IntKind.i64.wrap (Int.tdiv (Int.tdiv m.dim m.heads) 2) = Int.tdiv (Int.tdiv m.dim m.heads) 2 := by
    rcases hw with hw | hw <;> rcases hh with hh | hh <;> rw [hw, hh] <;> decide
  repeat (first | rw [kz_o] | rw [kz_r0] | simp -dsimp -implicitDefEqProofs only [go_sem, Nat.reduceBEq, Nat.reduceAdd, Nat.reduceLeDiff, Nat.reduceMul, Int.reduceLE, Int.reduceLT, Int.reduceBEq, hoo, z0, w1, w2])
  refine pw_intro (implTurns_ok (F := fun j => F (j + 12)) (t := m.turns) s7 s8) ?_
  rintro _ n8 hn8 rfl
  simp only [hn_up, hn_push] at hn8
  first | (rw [kz_r]; refine ⟨by simp -dsimp -implicitDefEqProofs only [go_sem, Nat.reduceBEq, Nat.reduceAdd, Nat.reduceLeDiff, Nat.reduceMul, Int.reduceLE, Int.reduceLT, Int.reduceBEq, hoo], ?_⟩) | skip
  repeat (first | rw [kz_o] | rw [kz_r0] | simp -dsimp -implicitDefEqProofs only [go_sem, Nat.reduceBEq, Nat.reduceAdd, Nat.reduceLeDiff, Nat.reduceMul, Int.reduceLE, Int.reduceLT, Int.reduceBEq, hoo])
  exact ⟨by repeat (first | exact H2.le.refl _ | apply le_push | refine le_up ?_ (by first | assumption | (simp only [hn_up, hn_push] at *; omega))), ⟨_, rfl⟩, by rw [modelB, h1, h2, h3, decide_eq_true h4, h5, h6, h7, h8, h9]; rfl⟩
end Go.Bi
end
section
set_option linter.unusedSimpArgs false
set_option linter.unusedVariables false
set_option maxRecDepth 20000
namespace Go.Bi
open Go.Proofs
open Go.Ai (wrap_i64 wrap_u8 Heap)
variable {W0 : World} {P : Program}
set_option maxHeartbeats 4000000
theorem get_W {l : List Int} {i : Nat} (h : i < l.length) : (l.map cI)[i]? = some (.raw (.int .i64 (l.getD i default))) := by
  rw [List.getElem?_map, List.getElem?_eq_getElem h, List.getD_eq_getElem?_getD, List.getElem?_eq_getElem h]; rfl
theorem wrt_W {l : List Int} {i : Nat} {v : Int} (h : i < l.length) : wrtL (l.map cI) i [.raw (.int .i64 v)] = some ((l.set i v).map cI) := by
  rw [wrt_set (by simpa using h), List.map_set]; rfl
theorem zeros_I {n : Nat} : (Go.Ai.repL n [.int .i64 0]).map X.raw = (List.replicate n (0 : Int)).map cI := by
  rw [Go.Ai.rep_one]; simp [cI]
theorem pw_same {f : FuncId} {xs : List X} {g : H2} {Q : X → Prop} (c : WC2 P W0 f xs g fun v g' => Q v ∧ g' = g) : PW P W0 f xs g Q :=
  WC2.mono c fun y g' ⟨h1, h2⟩ => by subst h2; exact ⟨rfl, Nat.le_refl _, h1⟩
theorem equalO_ok {f : Adr} {b n : Nat} {w l : List Int} {g : H2} (hb : hg g b .mk = some ⟨1, w.map cI⟩) (hn : w.length = n) (hl : n ≤ 1048576) : PW Tryz.prog W0 56 [.raw (.slice (some ⟨b, 0, none⟩) n n), .sl f 1 (ints l)] g (fun v => v = .raw (.bool (decide (w = l)))) := by
  subst hn
  have hf : ∃ f, Lent g (.raw (.slice (some ⟨b, 0, none⟩) w.length w.length)) (.sl f 1 (ints w)) := by
    have h2 : Lent g (.raw (.slice (some ⟨b, 0, none⟩) w.length w.length)) (.sl (litA b w.length 1 (w.map cI)) 1 (chunk 1 w.length (w.map fun n => T.v (.int .i64 n)))) :=
      Fz.own (cs' := w.map cI) hb trivial (by simp) rfl (fun i hi hi' => by rw [List.getElem_map]; exact .raw) toTs_ints
    rw [chunk_ints] at h2
    exact ⟨_, h2⟩
  obtain ⟨f1, hf⟩ := hf
  exact PW.lend (.cons hf (.cons (.sl (.sl (allT_true _ _))) .nil)) (pw_same (equalZ_ok (l' := l) hl)) (fun y h => by rw [h]; exact .raw)
theorem wants_in' {n i : Nat} {rs : List LRequest} (h : ∀ j, j < i → (rs.getD j default).table.pages.length ≤ 16) (hi : i ≤ rs.length) : inB (16 * i) (wantsL n (rs.take i)) := by
  have := wants_in (n := n) (rs := rs.take i) (fun j hj => by
    rw [List.length_take] at hj
    have h2 := h j (by omega)
    rwa [List.getD_eq_getElem?_getD, List.getElem?_take_of_lt (by omega), ← List.getD_eq_getElem?_getD]) i (by rw [List.length_take]; omega)
  rwa [List.take_take, Nat.min_self] at this
theorem implEngine_ok {F : Nat → Adr} {e : LEngine} {g : H2} (hs : smallEng e) : PW Tryz.prog W0 15 [.st (xEngine F e)] g (fun y => y = .raw (.bool (engB e))) := by
  obtain ⟨s1, s2, s3, s4, s5⟩ := id hs
  refine PW.scalar ?_
  refine start (P := Tryz.prog) [[0], [1], [], [1], [1, 3], [1, 3, 30, 31, 32], [1, 3, 30, 31, 32], [1, 3, 5, 30, 31, 32], [], [1, 3, 5, 30, 31, 32], [1, 3, 30, 31, 32, 42, 43, 44], [1, 3, 30, 31, 32, 42, 43, 44], [1, 3, 7, 30, 31, 32, 42, 43, 44], [1, 3, 30, 31, 32, 42, 43, 44], [1, 3, 30, 31, 32], [1, 3]] (by kernel_rfl) Tryz.func15 rfl (by decide) (by decide +kernel) (rs := [.tmp 2]) rfl rfl (Nat.le_of_ble_eq_true rfl) ?_
  intro wf
  repeat (first | rw [kz_o] | rw [kz_r0] | simp -dsimp -implicitDefEqProofs only [go_sem, Nat.reduceBEq, Nat.reduceAdd, Nat.reduceLeDiff, Nat.reduceMul, Int.reduceLE, Int.reduceLT, Int.reduceBEq, hoo])
  refine pw_intro (implModel_ok (F := F) (m := e.model) s1) ?_
  rintro _ n1 hn1 rfl
  simp only [hn_push] at hn1
  first | (rw [kz_r]; refine ⟨by simp -dsimp -implicitDefEqProofs only [go_sem, Nat.reduceBEq, Nat.reduceAdd, Nat.reduceLeDiff, Nat.reduceMul, Int.reduceLE, Int.reduceLT, Int.reduceBEq, hoo], ?_⟩) | skip
  cases h1 : modelB e.model
  · repeat (first | rw [kz_o] | rw [kz_r0] | simp -dsimp -implicitDefEqProofs only [go_sem, Nat.reduceBEq, Nat.reduceAdd, Nat.reduceLeDiff, Nat.reduceMul, Int.reduceLE, Int.reduceLT, Int.reduceBEq, hoo])
    exact ⟨by repeat (first | exact H2.le.refl _ | assumption | apply le_push | refine le_up ?_ (by first | assumption | (simp only [hn_up, hn_push] at *; omega))), ⟨_, rfl⟩, by rw [engB, h1]; rfl⟩
  repeat (first | rw [kz_o] | rw [kz_r0] | simp -dsimp -implicitDefEqProofs only [go_sem, Nat.reduceBEq, Nat.reduceAdd, Nat.reduceLeDiff, Nat.reduceMul, Int.reduceLE, Int.reduceLT, Int.reduceBEq, hoo])
  refine pw_intro (implStore_ok (F := fun j => F (j + 14)) (s := e.store) s2) ?_
  rintro _ n2 hn2 rfl
  simp only [hn_push, hn_up] at hn2
  first | (rw [kz_r]; refine ⟨by simp -dsimp -implicitDefEqProofs only [go_sem, Nat.reduceBEq, Nat.reduceAdd, Nat.reduceLeDiff, Nat.reduceMul, Int.reduceLE, Int.reduceLT, Int.reduceBEq, hoo], ?_⟩) | skip
  cases h2 : storeB e.store
  · repeat (first | rw [kz_o] | rw [kz_r0] | simp -dsimp -implicitDefEqProofs only [go_sem, Nat.reduceBEq, Nat.reduceAdd, Nat.reduceLeDiff, Nat.reduceMul, Int.reduceLE, Int.reduceLT, Int.reduceBEq, hoo])
    exact ⟨by repeat (first | exact H2.le.refl _ | assumption | apply le_push | refine le_up ?_ (by first | assumption | (simp only [hn_up, hn_push] at *; omega))), ⟨_, rfl⟩, by rw [engB, h1, h2]; rfl⟩
  by_cases h3 : (e.requests.length : Int) > 10
  · repeat (first | rw [kz_o] | rw [kz_r0] | simp -dsimp -implicitDefEqProofs only [go_sem, Nat.reduceBEq, Nat.reduceAdd, Nat.reduceLeDiff, Nat.reduceMul, Int.reduceLE, Int.reduceLT, Int.reduceBEq, hoo, h3])
    exact ⟨by repeat (first | exact H2.le.refl _ | assumption | apply le_push | refine le_up ?_ (by first | assumption | (simp only [hn_up, hn_push] at *; omega))), ⟨_, rfl⟩, by rw [engB, h1, h2, decide_eq_false (by omega)]; rfl⟩
  obtain ⟨hpl, hrl⟩ := storeB_len h2
  have hB : engB e = (e.requests.all (reqB e) && decide (wantsL e.store.refs.length e.requests = e.store.refs)) := by rw [engB, h1, h2, decide_eq_true (by omega)]; rfl
  repeat (first | rw [kz_o] | rw [kz_r0] | simp -dsimp -implicitDefEqProofs only [go_sem, Nat.reduceBEq, Nat.reduceAdd, Nat.reduceLeDiff, Nat.reduceMul, Int.reduceLE, Int.reduceLT, Int.reduceBEq, hoo, h3])
  refine make_intro Ai.ty_el27 Ai.ty_zr3 (by decide) ⟨by omega, by simp only [Int.toNat_natCast]; have : Ai.most = 1099511627776 := rfl; omega⟩ ?_
  simp only [hn_push, hn_up, Int.toNat_natCast]
  have hne0 : (hn g .mk == n2) = false := by simp; omega
  repeat (first | rw [kz_o] | rw [kz_r0] | simp -dsimp -implicitDefEqProofs only [go_sem, Nat.reduceBEq, Nat.reduceAdd, Nat.reduceLeDiff, Nat.reduceMul, Int.reduceLE, Int.reduceLT, Int.reduceBEq, hoo, hne0])
  refine lz_keep [1, 3, 30, 31] (fun mm s h' => ∃ (i : Nat), g.le h' ∧ n2 + 1 ≤ hn h' .mk ∧ hg h' (hn g .mk) .mk = some ⟨17, [.raw (.int .i64 e.model.dim), .raw (.int .i64 e.model.heads), .raw (.int .i64 e.model.context), .sl (F 3) 2 (rMergeS e.model.merges), .sl (F 4) 1 (rIntSS e.model.embed), .sl (F 5) 32 (rLayerS e.model.layers), .sl (F 6) 1 (ints e.model.gainEnd), .raw (.int .i64 e.model.head.width), .sl (F 8) 1 (rIntSS e.model.head.rows), .sl (F 9) 1 (rIntSS e.model.head.scales), .raw (.int .i64 e.model.head.mul), .raw (.int .i64 e.model.head.shift), .sl (F 12) 1 (rIntSS e.model.turns.cos), .sl (F 13) 1 (rIntSS e.model.turns.sin), .sl (F 14) 1 (ints e.store.refs), .sl (F 15) 1 (rCellSS e.store.pages), .sl (F 16) 10 (rRequestS e.requests)]⟩ ∧ hg h' n2 .mk = some ⟨1, (wantsL e.store.refs.length (e.requests.take i)).map cI⟩ ∧ look s 32 .mk = .raw (.int .i64 (i : Nat)) ∧ mm + i = e.requests.length ∧ ∀ j, j < i → reqB e (e.requests.getD j default) = true) e.requests.length ?_ ?_
  · have hne : (hn g .mk == n2) = false := by simp; omega
    refine ⟨0, by repeat (first | exact H2.le.refl _ | assumption | apply le_push | refine le_up ?_ (by first | assumption | (simp only [hn_up, hn_push] at *; omega))), by simp only [hn_push, hn_up]; omega, by simp -dsimp -implicitDefEqProofs only [go_sem, Nat.reduceBEq, Nat.reduceAdd, Nat.reduceLeDiff, Nat.reduceMul, Int.reduceLE, Int.reduceLT, Int.reduceBEq, hoo, hne] <;> rfl, ?_, by simp -dsimp -implicitDefEqProofs only [go_sem, Nat.reduceBEq, Nat.reduceAdd, Nat.reduceLeDiff, Nat.reduceMul, Int.reduceLE, Int.reduceLT, Int.reduceBEq], by omega, fun j hj => by omega⟩
    simp -dsimp -implicitDefEqProofs only [go_sem, Nat.reduceBEq, Nat.reduceAdd, Nat.reduceLeDiff, Nat.reduceMul, Int.reduceLE, Int.reduceLT, Int.reduceBEq, hoo, zeros_I]
    rfl
  rintro mm s h' hks ⟨i, hle, hnn, ra, rw0, ei, hmm, hpre⟩
  simp -dsimp -implicitDefEqProofs only [go_sem, Nat.reduceBEq, Nat.reduceAdd, Nat.reduceLeDiff, Nat.reduceMul, Int.reduceLE, Int.reduceLT, Int.reduceBEq] at hks
  by_cases q1 : (i : Int) < (e.requests.length : Int)
  · have q2 : i < e.requests.length := by omega
    have w1 : IntKind.i64.wrap ((i : Int) + 1) = ((i + 1 : Nat) : Int) := by rw [wrap_i64] <;> omega
    have hne1 : (hn g .mk == hn h' .mk) = false := by simp; have := hle.1; omega
    repeat (first | rw [kz_o] | rw [kz_r0] | simp -dsimp -implicitDefEqProofs only [go_sem, Nat.reduceBEq, Nat.reduceAdd, Nat.reduceLeDiff, Nat.reduceMul, Int.reduceLE, Int.reduceLT, Int.reduceBEq, hks, ei, q1, q2, ra, rw0, hoo, hne1])
    refine pw_intro (implReq_ok (F := F) (F' := fun j => under (under (F 16) i) j) (r := e.requests.getD i default) h1 h2 hs (s5 i q2)) ?_
    rintro _ n3 hn3 rfl
    simp only [hn_push] at hn3
    cases h4 : reqB e (e.requests.getD i default)
    · repeat (first | rw [kz_o] | rw [kz_r0] | simp -dsimp -implicitDefEqProofs only [go_sem, Nat.reduceBEq, Nat.reduceAdd, Nat.reduceLeDiff, Nat.reduceMul, Int.reduceLE, Int.reduceLT, Int.reduceBEq, hks, ei, q1, q2, ra, rw0])
      refine ⟨le_up (le_push hle) (by rw [hn_push]; exact hn3), ⟨_, rfl⟩, ?_⟩
      rw [hB, Bool.and_eq_false_iff.2 (.inl ?_)]
      rw [List.all_eq_false]
      exact ⟨_, getD_memR q2, by rw [h4]; simp⟩
    have hwl : (wantsL e.store.refs.length (e.requests.take i)).length = e.store.refs.length := wants_len
    obtain ⟨hp16, htb⟩ := reqB_pages h4
    have hpg := (table_t htb).2.2.2
    have hne2 : (n2 == hn h' .mk) = false := by simp; omega
    repeat (first | rw [kz_o] | rw [kz_r0] | simp -dsimp -implicitDefEqProofs only [go_sem, Nat.reduceBEq, Nat.reduceAdd, Nat.reduceLeDiff, Nat.reduceMul, Int.reduceLE, Int.reduceLT, Int.reduceBEq, hks, ei, q1, q2, ra, rw0, hoo, hne1, hne2])
    refine lz_keep [1, 3, 30, 31, 32, 42, 43] (fun m2 s2 h2' => ∃ (k : Nat), g.le h2' ∧ n2 + 1 ≤ hn h2' .mk ∧ hg h2' (hn g .mk) .mk = some ⟨17, [.raw (.int .i64 e.model.dim), .raw (.int .i64 e.model.heads), .raw (.int .i64 e.model.context), .sl (F 3) 2 (rMergeS e.model.merges), .sl (F 4) 1 (rIntSS e.model.embed), .sl (F 5) 32 (rLayerS e.model.layers), .sl (F 6) 1 (ints e.model.gainEnd), .raw (.int .i64 e.model.head.width), .sl (F 8) 1 (rIntSS e.model.head.rows), .sl (F 9) 1 (rIntSS e.model.head.scales), .raw (.int .i64 e.model.head.mul), .raw (.int .i64 e.model.head.shift), .sl (F 12) 1 (rIntSS e.model.turns.cos), .sl (F 13) 1 (rIntSS e.model.turns.sin), .sl (F 14) 1 (ints e.store.refs), .sl (F 15) 1 (rCellSS e.store.pages), .sl (F 16) 10 (rRequestS e.requests)]⟩ ∧ hg h2' n2 .mk = some ⟨1, (((e.requests.getD i default).table.pages.take k).foldl bump (wantsL e.store.refs.length (e.requests.take i))).map cI⟩ ∧ look s2 44 .mk = .raw (.int .i64 (k : Nat)) ∧ m2 + k = (e.requests.getD i default).table.pages.length) (e.requests.getD i default).table.pages.length ?_ ?_
    · refine ⟨0, le_up (le_push hle) (by rw [hn_push]; exact hn3), by rw [hn_up]; omega, by simp -dsimp -implicitDefEqProofs only [go_sem, Nat.reduceBEq, Nat.reduceAdd, Nat.reduceLeDiff, Nat.reduceMul, Int.reduceLE, Int.reduceLT, Int.reduceBEq, hoo, hne1, ra] <;> rfl, by simp -dsimp -implicitDefEqProofs only [go_sem, Nat.reduceBEq, Nat.reduceAdd, Nat.reduceLeDiff, Nat.reduceMul, Int.reduceLE, Int.reduceLT, Int.reduceBEq, hoo, hne2, rw0] <;> rfl, by simp -dsimp -implicitDefEqProofs only [go_sem, Nat.reduceBEq, Nat.reduceAdd, Nat.reduceLeDiff, Nat.reduceMul, Int.reduceLE, Int.reduceLT, Int.reduceBEq], by omega⟩
    rintro m2 s2 h2' hks2 ⟨k, hle2, hnn2, rb, rv, ek, hm2⟩
    simp -dsimp -implicitDefEqProofs only [go_sem, Nat.reduceBEq, Nat.reduceAdd, Nat.reduceLeDiff, Nat.reduceMul, Int.reduceLE, Int.reduceLT, Int.reduceBEq, hks] at hks2
    have hwi : inB (16 * i) (wantsL e.store.refs.length (e.requests.take i)) := wants_in' (fun j hj => (reqB_pages (hpre j hj)).1) (by omega)
    have hwk := bumps_in (ps := (e.requests.getD i default).table.pages.take k) (B := 16 * i) (by omega) hwi
    have hvl : (((e.requests.getD i default).table.pages.take k).foldl bump (wantsL e.store.refs.length (e.requests.take i))).length = e.store.refs.length := by rw [bumps_len, hwl]
    by_cases q3 : (k : Int) < ((e.requests.getD i default).table.pages.length : Int)
    · have q4 : k < (e.requests.getD i default).table.pages.length := by omega
      have w2 : IntKind.i64.wrap ((k : Int) + 1) = ((k + 1 : Nat) : Int) := by rw [wrap_i64] <;> omega
      obtain ⟨p1, p2, p3⟩ := pgB_t (hpg k q4)
      obtain ⟨p, hp⟩ := Int.eq_ofNat_of_zero_le p1.1
      have k1 : p < e.store.refs.length := by omega
      have hsn := bumps_snoc (ps := (e.requests.getD i default).table.pages) (w := wantsL e.store.refs.length (e.requests.take i)) q4
      generalize hwdef : ((e.requests.getD i default).table.pages.take k).foldl bump (wantsL e.store.refs.length (e.requests.take i)) = w at *
      have hb := hwk p
      have hlk : (((e.requests.getD i default).table.pages.take k).length : Int) ≤ 16 := by rw [List.length_take]; omega
      have w3 : IntKind.i64.wrap (w.getD p default + 1) = w.getD p default + 1 := by rw [wrap_i64] <;> omega
      have gw := get_W (l := w) (i := p) (by omega)
      have ww := wrt_W (l := w) (i := p) (v := w.getD p default + 1) (by omega)
      have hi2 : (0 : Int) ≤ (p : Int) ∧ (p : Int) < (e.store.refs.length : Int) := by omega
      have hbump : bump w ((e.requests.getD i default).table.pages.getD k default) = w.set p (w.getD p default + 1) := by rw [hp]; rfl
      have hne3 : (hn g .mk == n2) = false := by simp; omega
      repeat (first | rw [kz_o] | rw [kz_r0] | simp -dsimp -implicitDefEqProofs only [go_sem, Nat.reduceBEq, Nat.reduceAdd, Nat.reduceLeDiff, Nat.reduceMul, Int.reduceLE, Int.reduceLT, Int.reduceBEq, hks, hks2, ek, q3, q4, rb, rv, hp, hi2, nat_nn, Int.toNat_natCast, k1, gw, ww, w3, w2, hoo])
      refine nx_keep (m2 - 1) (by omega) (by simp -dsimp -implicitDefEqProofs only [go_sem, Nat.reduceBEq, Nat.reduceAdd, Nat.reduceLeDiff, Nat.reduceMul, Int.reduceLE, Int.reduceLT, Int.reduceBEq, hks, hks2]) ⟨k + 1, le_set hle2 (by omega), by rw [hn_set]; omega, by simp -dsimp -implicitDefEqProofs only [go_sem, Nat.reduceBEq, Nat.reduceAdd, Nat.reduceLeDiff, Nat.reduceMul, Int.reduceLE, Int.reduceLT, Int.reduceBEq, hoo, hne3, rb], ?_, by simp -dsimp -implicitDefEqProofs only [go_sem, Nat.reduceBEq, Nat.reduceAdd, Nat.reduceLeDiff, Nat.reduceMul, Int.reduceLE, Int.reduceLT, Int.reduceBEq, w2], by omega⟩
      rw [hsn, hbump]
      simp -dsimp -implicitDefEqProofs only [go_sem, Nat.reduceBEq, Nat.reduceAdd, Nat.reduceLeDiff, Nat.reduceMul, Int.reduceLE, Int.reduceLT, Int.reduceBEq, hoo]
    · repeat (first | rw [kz_o] | rw [kz_r0] | simp -dsimp -implicitDefEqProofs only [go_sem, Nat.reduceBEq, Nat.reduceAdd, Nat.reduceLeDiff, Nat.reduceMul, Int.reduceLE, Int.reduceLT, Int.reduceBEq, hks, hks2, ek, q3, w1])
      have hkk : k = (e.requests.getD i default).table.pages.length := by omega
      refine nx_keep (mm - 1) (by omega) (by simp -dsimp -implicitDefEqProofs only [go_sem, Nat.reduceBEq, Nat.reduceAdd, Nat.reduceLeDiff, Nat.reduceMul, Int.reduceLE, Int.reduceLT, Int.reduceBEq, hks, hks2]) ⟨i + 1, hle2, hnn2, by simp -dsimp -implicitDefEqProofs only [go_sem, Nat.reduceBEq, Nat.reduceAdd, Nat.reduceLeDiff, Nat.reduceMul, Int.reduceLE, Int.reduceLT, Int.reduceBEq, rb], ?_, by simp -dsimp -implicitDefEqProofs only [go_sem, Nat.reduceBEq, Nat.reduceAdd, Nat.reduceLeDiff, Nat.reduceMul, Int.reduceLE, Int.reduceLT, Int.reduceBEq, w1], by omega, fun j hj => ?_⟩
      · rw [rv, hkk, List.take_length, wants_snoc q2]
      · by_cases hji : j = i
        · subst hji; exact h4
        · exact hpre j (by omega)
  repeat (first | rw [kz_o] | rw [kz_r0] | simp -dsimp -implicitDefEqProofs only [go_sem, Nat.reduceBEq, Nat.reduceAdd, Nat.reduceLeDiff, Nat.reduceMul, Int.reduceLE, Int.reduceLT, Int.reduceBEq, hks, ei, q1, ra, rw0])
  have hii : i = e.requests.length := by omega
  rw [hii, List.take_length] at rw0
  refine pw_intro (equalO_ok (f := F 14) (w := wantsL e.store.refs.length e.requests) (l := e.store.refs) rw0 wants_len (by omega)) ?_
  rintro _ n4 hn4 rfl
  repeat (first | rw [kz_o] | rw [kz_r0] | simp -dsimp -implicitDefEqProofs only [go_sem, Nat.reduceBEq, Nat.reduceAdd, Nat.reduceLeDiff, Nat.reduceMul, Int.reduceLE, Int.reduceLT, Int.reduceBEq])
  refine ⟨le_up hle hn4, ⟨_, rfl⟩, ?_⟩
  rw [hB, List.all_eq_true.2 fun x hx => ?_]
  · rfl
  · obtain ⟨j, hj, rfl⟩ := List.getElem_of_mem hx
    have := hpre j (by omega)
    rwa [List.getD_eq_getElem?_getD, List.getElem?_eq_getElem hj] at this
end Go.Bi
end
section
set_option linter.unusedSimpArgs false
set_option linter.unusedVariables false
set_option maxRecDepth 20000
namespace Go.Bi
open Go.Proofs
open Go.Ai (wrap_i64 wrap_u8 Heap)
variable {W0 : World} {P : Program}
set_option maxHeartbeats 4000000
theorem specEngine_ok {F : Nat → Adr} {e : LEngine} {g : H2} (hs : smallEng e) (hrg : rngEngine e) : PW Tryz.prog W0 19 [.st (xEngine F e)] g (fun y => y = .raw (.bool (engB e))) := by
  obtain ⟨s1, s2, s3, s4, s5⟩ := id hs
  refine PW.scalar ?_
  refine start (P := Tryz.prog) [[0], [1], [], [1], [1, 3], [1, 3, 4], [1, 3, 4], [1, 3, 4], [], [1, 3, 4], [1, 3, 4, 5], [1, 3, 4, 5], [1, 3, 4, 5], [1, 3], [1, 3, 6], [1, 3, 6], [1, 3, 6], [], []] (by kernel_rfl) Tryz.func19 rfl (by decide) (by decide +kernel) (rs := [.tmp 2]) rfl rfl (Nat.le_of_ble_eq_true rfl) ?_
  intro wf
  repeat (first | rw [kz_o] | rw [kz_r0] | simp -dsimp -implicitDefEqProofs only [go_sem, Nat.reduceBEq, Nat.reduceAdd, Nat.reduceLeDiff, Nat.reduceMul, Int.reduceLE, Int.reduceLT, Int.reduceBEq, hoo])
  refine pw_intro (specModel_ok (F := F) (m := e.model) s1) ?_
  rintro _ n1 hn1 rfl
  simp only [hn_push] at hn1
  first | (rw [kz_r]; refine ⟨by simp -dsimp -implicitDefEqProofs only [go_sem, Nat.reduceBEq, Nat.reduceAdd, Nat.reduceLeDiff, Nat.reduceMul, Int.reduceLE, Int.reduceLT, Int.reduceBEq, hoo], ?_⟩) | skip
  cases h1 : modelB e.model
  · repeat (first | rw [kz_o] | rw [kz_r0] | simp -dsimp -implicitDefEqProofs only [go_sem, Nat.reduceBEq, Nat.reduceAdd, Nat.reduceLeDiff, Nat.reduceMul, Int.reduceLE, Int.reduceLT, Int.reduceBEq, hoo])
    exact ⟨by repeat (first | exact H2.le.refl _ | assumption | apply le_push | refine le_up ?_ (by first | assumption | (simp only [hn_up, hn_push] at *; omega))), ⟨_, rfl⟩, by rw [engB, h1]; rfl⟩
  repeat (first | rw [kz_o] | rw [kz_r0] | simp -dsimp -implicitDefEqProofs only [go_sem, Nat.reduceBEq, Nat.reduceAdd, Nat.reduceLeDiff, Nat.reduceMul, Int.reduceLE, Int.reduceLT, Int.reduceBEq, hoo])
  refine pw_intro (specStore_ok (F := fun j => F (j + 14)) (s := e.store) s2) ?_
  rintro _ n2 hn2 rfl
  simp only [hn_push, hn_up] at hn2
  first | (rw [kz_r]; refine ⟨by simp -dsimp -implicitDefEqProofs only [go_sem, Nat.reduceBEq, Nat.reduceAdd, Nat.reduceLeDiff, Nat.reduceMul, Int.reduceLE, Int.reduceLT, Int.reduceBEq, hoo], ?_⟩) | skip
  cases h2 : storeB e.store
  · repeat (first | rw [kz_o] | rw [kz_r0] | simp -dsimp -implicitDefEqProofs only [go_sem, Nat.reduceBEq, Nat.reduceAdd, Nat.reduceLeDiff, Nat.reduceMul, Int.reduceLE, Int.reduceLT, Int.reduceBEq, hoo])
    exact ⟨by repeat (first | exact H2.le.refl _ | assumption | apply le_push | refine le_up ?_ (by first | assumption | (simp only [hn_up, hn_push] at *; omega))), ⟨_, rfl⟩, by rw [engB, h1, h2]; rfl⟩
  by_cases h3 : (e.requests.length : Int) > 10
  · repeat (first | rw [kz_o] | rw [kz_r0] | simp -dsimp -implicitDefEqProofs only [go_sem, Nat.reduceBEq, Nat.reduceAdd, Nat.reduceLeDiff, Nat.reduceMul, Int.reduceLE, Int.reduceLT, Int.reduceBEq, hoo, h3])
    exact ⟨by repeat (first | exact H2.le.refl _ | assumption | apply le_push | refine le_up ?_ (by first | assumption | (simp only [hn_up, hn_push] at *; omega))), ⟨_, rfl⟩, by rw [engB, h1, h2, decide_eq_false (by omega)]; rfl⟩
  obtain ⟨hpl, hrl⟩ := storeB_len h2
  have hB : engB e = (e.requests.all (reqB e) && decide (wantsL e.store.refs.length e.requests = e.store.refs)) := by rw [engB, h1, h2, decide_eq_true (by omega)]; rfl
  repeat (first | rw [kz_o] | rw [kz_r0] | simp -dsimp -implicitDefEqProofs only [go_sem, Nat.reduceBEq, Nat.reduceAdd, Nat.reduceLeDiff, Nat.reduceMul, Int.reduceLE, Int.reduceLT, Int.reduceBEq, hoo, h3])
  refine make_intro Ai.ty_el27 Ai.ty_zr3 (by decide) ⟨by omega, by simp only [Int.toNat_natCast]; have : Ai.most = 1099511627776 := rfl; omega⟩ ?_
  simp only [hn_push, hn_up, Int.toNat_natCast]
  have hne0 : (hn g .mk == n2) = false := by simp; omega
  repeat (first | rw [kz_o] | rw [kz_r0] | simp -dsimp -implicitDefEqProofs only [go_sem, Nat.reduceBEq, Nat.reduceAdd, Nat.reduceLeDiff, Nat.reduceMul, Int.reduceLE, Int.reduceLT, Int.reduceBEq, hoo, hne0])
  refine lz_keep [1, 3] (fun mm s h' => ∃ (i : Nat), g.le h' ∧ n2 + 1 ≤ hn h' .mk ∧ hg h' (hn g .mk) .mk = some ⟨17, [.raw (.int .i64 e.model.dim), .raw (.int .i64 e.model.heads), .raw (.int .i64 e.model.context), .sl (F 3) 2 (rMergeS e.model.merges), .sl (F 4) 1 (rIntSS e.model.embed), .sl (F 5) 32 (rLayerS e.model.layers), .sl (F 6) 1 (ints e.model.gainEnd), .raw (.int .i64 e.model.head.width), .sl (F 8) 1 (rIntSS e.model.head.rows), .sl (F 9) 1 (rIntSS e.model.head.scales), .raw (.int .i64 e.model.head.mul), .raw (.int .i64 e.model.head.shift), .sl (F 12) 1 (rIntSS e.model.turns.cos), .sl (F 13) 1 (rIntSS e.model.turns.sin), .sl (F 14) 1 (ints e.store.refs), .sl (F 15) 1 (rCellSS e.store.pages), .sl (F 16) 10 (rRequestS e.requests)]⟩ ∧ hg h' n2 .mk = some ⟨1, (wantsL e.store.refs.length (e.requests.take i)).map cI⟩ ∧ look s 4 .mk = .raw (.int .i64 (i : Nat)) ∧ mm + i = e.requests.length ∧ ∀ j, j < i → reqB e (e.requests.getD j default) = true) e.requests.length ?_ ?_
  · have hne : (hn g .mk == n2) = false := by simp; omega
    refine ⟨0, by repeat (first | exact H2.le.refl _ | assumption | apply le_push | refine le_up ?_ (by first | assumption | (simp only [hn_up, hn_push] at *; omega))), by simp only [hn_push, hn_up]; omega, by simp -dsimp -implicitDefEqProofs only [go_sem, Nat.reduceBEq, Nat.reduceAdd, Nat.reduceLeDiff, Nat.reduceMul, Int.reduceLE, Int.reduceLT, Int.reduceBEq, hoo, hne] <;> rfl, ?_, by simp -dsimp -implicitDefEqProofs only [go_sem, Nat.reduceBEq, Nat.reduceAdd, Nat.reduceLeDiff, Nat.reduceMul, Int.reduceLE, Int.reduceLT, Int.reduceBEq], by omega, fun j hj => by omega⟩
    simp -dsimp -implicitDefEqProofs only [go_sem, Nat.reduceBEq, Nat.reduceAdd, Nat.reduceLeDiff, Nat.reduceMul, Int.reduceLE, Int.reduceLT, Int.reduceBEq, hoo, zeros_I]
    rfl
  rintro mm s h' hks ⟨i, hle, hnn, ra, rw0, ei, hmm, hpre⟩
  simp -dsimp -implicitDefEqProofs only [go_sem, Nat.reduceBEq, Nat.reduceAdd, Nat.reduceLeDiff, Nat.reduceMul, Int.reduceLE, Int.reduceLT, Int.reduceBEq] at hks
  have hwl : (wantsL e.store.refs.length (e.requests.take i)).length = e.store.refs.length := wants_len
  by_cases q1 : (i : Int) < (e.requests.length : Int)
  · have q2 : i < e.requests.length := by omega
    have w1 : IntKind.i64.wrap ((i : Int) + 1) = ((i + 1 : Nat) : Int) := by rw [wrap_i64] <;> omega
    repeat (first | rw [kz_o] | rw [kz_r0] | simp -dsimp -implicitDefEqProofs only [go_sem, Nat.reduceBEq, Nat.reduceAdd, Nat.reduceLeDiff, Nat.reduceMul, Int.reduceLE, Int.reduceLT, Int.reduceBEq, hks, ei, q1, q2, ra, rw0])
    refine dq_intro [(0, []), (1, []), (2, []), (3, []), (4, []), (5, []), (6, []), (7, [])] (by kernel_rfl) ?_
    repeat (first | rw [kz_o] | rw [kz_r0] | simp -dsimp -implicitDefEqProofs only [go_sem, Nat.reduceBEq, Nat.reduceAdd, Nat.reduceLeDiff, Nat.reduceMul, Int.reduceLE, Int.reduceLT, Int.reduceBEq, hks, ei, q1, q2, ra, rw0])
    refine pw_intro (specReq_ok (F := F) (F' := fun j => under (under (F 16) i) j) (r := e.requests.getD i default) h1 h2 hs (s5 i q2) (hrg _ (getD_memR q2)).1) ?_
    rintro _ n3 hn3 rfl
    first | (rw [kz_r]; refine ⟨by simp -dsimp -implicitDefEqProofs only [go_sem, Nat.reduceBEq, Nat.reduceAdd, Nat.reduceLeDiff, Nat.reduceMul, Int.reduceLE, Int.reduceLT, Int.reduceBEq, hks, ei, ra, rw0], ?_⟩) | skip
    cases h4 : reqB e (e.requests.getD i default)
    · repeat (first | rw [kz_o] | rw [kz_r0] | simp -dsimp -implicitDefEqProofs only [go_sem, Nat.reduceBEq, Nat.reduceAdd, Nat.reduceLeDiff, Nat.reduceMul, Int.reduceLE, Int.reduceLT, Int.reduceBEq, hks, ei, q1, q2, ra, rw0])
      refine ⟨le_up hle hn3, ⟨_, rfl⟩, ?_⟩
      rw [hB, Bool.and_eq_false_iff.2 (.inl ?_)]
      rw [List.all_eq_false]
      exact ⟨_, getD_memR q2, by rw [h4]; simp⟩
    obtain ⟨hp16, htb⟩ := reqB_pages h4
    have hpg := (table_t htb).2.2.2
    repeat (first | rw [kz_o] | rw [kz_r0] | simp -dsimp -implicitDefEqProofs only [go_sem, Nat.reduceBEq, Nat.reduceAdd, Nat.reduceLeDiff, Nat.reduceMul, Int.reduceLE, Int.reduceLT, Int.reduceBEq, hks, ei, q1, q2, ra, rw0])
    refine lz_keep [1, 3, 4] (fun m2 s2 h2' => ∃ (k : Nat), g.le h2' ∧ n2 + 1 ≤ hn h2' .mk ∧ hg h2' (hn g .mk) .mk = some ⟨17, [.raw (.int .i64 e.model.dim), .raw (.int .i64 e.model.heads), .raw (.int .i64 e.model.context), .sl (F 3) 2 (rMergeS e.model.merges), .sl (F 4) 1 (rIntSS e.model.embed), .sl (F 5) 32 (rLayerS e.model.layers), .sl (F 6) 1 (ints e.model.gainEnd), .raw (.int .i64 e.model.head.width), .sl (F 8) 1 (rIntSS e.model.head.rows), .sl (F 9) 1 (rIntSS e.model.head.scales), .raw (.int .i64 e.model.head.mul), .raw (.int .i64 e.model.head.shift), .sl (F 12) 1 (rIntSS e.model.turns.cos), .sl (F 13) 1 (rIntSS e.model.turns.sin), .sl (F 14) 1 (ints e.store.refs), .sl (F 15) 1 (rCellSS e.store.pages), .sl (F 16) 10 (rRequestS e.requests)]⟩ ∧ hg h2' n2 .mk = some ⟨1, (((e.requests.getD i default).table.pages.take k).foldl bump (wantsL e.store.refs.length (e.requests.take i))).map cI⟩ ∧ look s2 5 .mk = .raw (.int .i64 (k : Nat)) ∧ m2 + k = (e.requests.getD i default).table.pages.length) (e.requests.getD i default).table.pages.length ?_ ?_
    · refine ⟨0, le_up hle hn3, by rw [hn_up]; omega, by simp -dsimp -implicitDefEqProofs only [go_sem, Nat.reduceBEq, Nat.reduceAdd, Nat.reduceLeDiff, Nat.reduceMul, Int.reduceLE, Int.reduceLT, Int.reduceBEq, ra] <;> rfl, by simp -dsimp -implicitDefEqProofs only [go_sem, Nat.reduceBEq, Nat.reduceAdd, Nat.reduceLeDiff, Nat.reduceMul, Int.reduceLE, Int.reduceLT, Int.reduceBEq, rw0] <;> rfl, by simp -dsimp -implicitDefEqProofs only [go_sem, Nat.reduceBEq, Nat.reduceAdd, Nat.reduceLeDiff, Nat.reduceMul, Int.reduceLE, Int.reduceLT, Int.reduceBEq], by omega⟩
    rintro m2 s2 h2' hks2 ⟨k, hle2, hnn2, rb, rv, ek, hm2⟩
    simp -dsimp -implicitDefEqProofs only [go_sem, Nat.reduceBEq, Nat.reduceAdd, Nat.reduceLeDiff, Nat.reduceMul, Int.reduceLE, Int.reduceLT, Int.reduceBEq, hks, ei] at hks2
    have hwi : inB (16 * i) (wantsL e.store.refs.length (e.requests.take i)) := wants_in' (fun j hj => (reqB_pages (hpre j hj)).1) (by omega)
    have hwk := bumps_in (ps := (e.requests.getD i default).table.pages.take k) (B := 16 * i) (by omega) hwi
    have hvl : (((e.requests.getD i default).table.pages.take k).foldl bump (wantsL e.store.refs.length (e.requests.take i))).length = e.store.refs.length := by rw [bumps_len, hwl]
    by_cases q3 : (k : Int) < ((e.requests.getD i default).table.pages.length : Int)
    · have q4 : k < (e.requests.getD i default).table.pages.length := by omega
      have w2 : IntKind.i64.wrap ((k : Int) + 1) = ((k + 1 : Nat) : Int) := by rw [wrap_i64] <;> omega
      obtain ⟨p1, p2, p3⟩ := pgB_t (hpg k q4)
      obtain ⟨p, hp⟩ := Int.eq_ofNat_of_zero_le p1.1
      have k1 : p < e.store.refs.length := by omega
      have hsn := bumps_snoc (ps := (e.requests.getD i default).table.pages) (w := wantsL e.store.refs.length (e.requests.take i)) q4
      generalize hwdef : ((e.requests.getD i default).table.pages.take k).foldl bump (wantsL e.store.refs.length (e.requests.take i)) = w at *
      have hb := hwk p
      have hlk : (((e.requests.getD i default).table.pages.take k).length : Int) ≤ 16 := by rw [List.length_take]; omega
      have w3 : IntKind.i64.wrap (w.getD p default + 1) = w.getD p default + 1 := by rw [wrap_i64] <;> omega
      have gw := get_W (l := w) (i := p) (by omega)
      have ww := wrt_W (l := w) (i := p) (v := w.getD p default + 1) (by omega)
      have hi2 : (0 : Int) ≤ (p : Int) ∧ (p : Int) < (e.store.refs.length : Int) := by omega
      have hbump : bump w ((e.requests.getD i default).table.pages.getD k default) = w.set p (w.getD p default + 1) := by rw [hp]; rfl
      have hne3 : (hn g .mk == n2) = false := by simp; omega
      repeat (first | rw [kz_o] | rw [kz_r0] | simp -dsimp -implicitDefEqProofs only [go_sem, Nat.reduceBEq, Nat.reduceAdd, Nat.reduceLeDiff, Nat.reduceMul, Int.reduceLE, Int.reduceLT, Int.reduceBEq, hks, hks2, ei, ek, q2, q3, rb, rv])
      refine dq_intro [(0, []), (1, []), (2, []), (3, []), (4, []), (5, []), (6, []), (7, []), (8, []), (9, []), (10, []), (11, []), (12, []), (13, []), (14, []), (15, []), (16, []), (17, []), (18, []), (19, []), (20, []), (21, []), (22, []), (23, []), (24, []), (25, []), (26, [])] (by kernel_rfl) ?_
      repeat (first | rw [kz_o] | rw [kz_r0] | simp -dsimp -implicitDefEqProofs only [go_sem, Nat.reduceBEq, Nat.reduceAdd, Nat.reduceLeDiff, Nat.reduceMul, Int.reduceLE, Int.reduceLT, Int.reduceBEq, hks, hks2, ei, ek, q2, q3, q4, rb, rv, hp, hi2, nat_nn, Int.toNat_natCast, k1, gw, ww, w3, w2, hoo])
      refine nx_keep (m2 - 1) (by omega) (by simp -dsimp -implicitDefEqProofs only [go_sem, Nat.reduceBEq, Nat.reduceAdd, Nat.reduceLeDiff, Nat.reduceMul, Int.reduceLE, Int.reduceLT, Int.reduceBEq, hks, hks2]) ⟨k + 1, le_set hle2 (by omega), by rw [hn_set]; omega, by simp -dsimp -implicitDefEqProofs only [go_sem, Nat.reduceBEq, Nat.reduceAdd, Nat.reduceLeDiff, Nat.reduceMul, Int.reduceLE, Int.reduceLT, Int.reduceBEq, hoo, hne3, rb], ?_, by simp -dsimp -implicitDefEqProofs only [go_sem, Nat.reduceBEq, Nat.reduceAdd, Nat.reduceLeDiff, Nat.reduceMul, Int.reduceLE, Int.reduceLT, Int.reduceBEq, w2], by omega⟩
      rw [hsn, hbump]
      simp -dsimp -implicitDefEqProofs only [go_sem, Nat.reduceBEq, Nat.reduceAdd, Nat.reduceLeDiff, Nat.reduceMul, Int.reduceLE, Int.reduceLT, Int.reduceBEq, hoo]
    · repeat (first | rw [kz_o] | rw [kz_r0] | simp -dsimp -implicitDefEqProofs only [go_sem, Nat.reduceBEq, Nat.reduceAdd, Nat.reduceLeDiff, Nat.reduceMul, Int.reduceLE, Int.reduceLT, Int.reduceBEq, hks, hks2, ei, ek, q2, q3, rb, w1])
      have hkk : k = (e.requests.getD i default).table.pages.length := by omega
      refine nx_keep (mm - 1) (by omega) (by simp -dsimp -implicitDefEqProofs only [go_sem, Nat.reduceBEq, Nat.reduceAdd, Nat.reduceLeDiff, Nat.reduceMul, Int.reduceLE, Int.reduceLT, Int.reduceBEq, hks, hks2]) ⟨i + 1, hle2, hnn2, by simp -dsimp -implicitDefEqProofs only [go_sem, Nat.reduceBEq, Nat.reduceAdd, Nat.reduceLeDiff, Nat.reduceMul, Int.reduceLE, Int.reduceLT, Int.reduceBEq, rb], ?_, by simp -dsimp -implicitDefEqProofs only [go_sem, Nat.reduceBEq, Nat.reduceAdd, Nat.reduceLeDiff, Nat.reduceMul, Int.reduceLE, Int.reduceLT, Int.reduceBEq, w1], by omega, fun j hj => ?_⟩
      · rw [rv, hkk, List.take_length, wants_snoc q2]
      · by_cases hji : j = i
        · subst hji; exact h4
        · exact hpre j (by omega)
  repeat (first | rw [kz_o] | rw [kz_r0] | simp -dsimp -implicitDefEqProofs only [go_sem, Nat.reduceBEq, Nat.reduceAdd, Nat.reduceLeDiff, Nat.reduceMul, Int.reduceLE, Int.reduceLT, Int.reduceBEq, hks, ei, q1, ra, rw0])
  have hii : i = e.requests.length := by omega
  rw [hii, List.take_length] at rw0 hwl
  have hall : e.requests.all (reqB e) = true := by
    rw [List.all_eq_true]
    intro x hx
    obtain ⟨j, hj, rfl⟩ := List.getElem_of_mem hx
    have := hpre j (by omega)
    rwa [List.getD_eq_getElem?_getD, List.getElem?_eq_getElem hj] at this
  rw [hB, hall, Bool.true_and]
  generalize hwdef : wantsL e.store.refs.length e.requests = w at *
  refine lz_keep [1, 3] (fun m3 s3 h3' => ∃ (k : Nat), h3' = h' ∧ look s3 6 .mk = .raw (.int .i64 (k : Nat)) ∧ m3 + k = e.store.refs.length ∧ ∀ j, j < k → w.getD j default = e.store.refs.getD j default) e.store.refs.length ?_ ?_
  · exact ⟨0, rfl, by simp -dsimp -implicitDefEqProofs only [go_sem, Nat.reduceBEq, Nat.reduceAdd, Nat.reduceLeDiff, Nat.reduceMul, Int.reduceLE, Int.reduceLT, Int.reduceBEq], by omega, fun j hj => by omega⟩
  rintro m3 s3 _ hks3 ⟨k, rfl, ek, hm3, hpre3⟩
  simp -dsimp -implicitDefEqProofs only [go_sem, Nat.reduceBEq, Nat.reduceAdd, Nat.reduceLeDiff, Nat.reduceMul, Int.reduceLE, Int.reduceLT, Int.reduceBEq, hks] at hks3
  by_cases q3 : (k : Int) < (e.store.refs.length : Int)
  · have q4 : k < e.store.refs.length := by omega
    have w2 : IntKind.i64.wrap ((k : Int) + 1) = ((k + 1 : Nat) : Int) := by rw [wrap_i64] <;> omega
    have gw := get_W (l := w) (i := k) (by omega)
    have hi2 : (0 : Int) ≤ (k : Int) ∧ (k : Int) < (e.store.refs.length : Int) := by omega
    by_cases q5 : w.getD k default = e.store.refs.getD k default
    · have e5 : decide (¬ w.getD k default = e.store.refs.getD k default) = false := decide_eq_false (fun h => h q5)
      repeat (first | rw [kz_o] | rw [kz_r0] | simp -dsimp -implicitDefEqProofs only [go_sem, Nat.reduceBEq, Nat.reduceAdd, Nat.reduceLeDiff, Nat.reduceMul, Int.reduceLE, Int.reduceLT, Int.reduceBEq, hks3, ek, q3, q4, ra, rw0, hi2, nat_nn, Int.toNat_natCast, gw])
      refine dq_intro [(0, []), (1, []), (2, []), (3, []), (4, []), (5, []), (6, []), (7, []), (8, []), (9, []), (10, [])] (by kernel_rfl) ?_
      repeat (first | rw [kz_o] | rw [kz_r0] | simp -dsimp -implicitDefEqProofs only [go_sem, Nat.reduceBEq, Nat.reduceAdd, Nat.reduceLeDiff, Nat.reduceMul, Int.reduceLE, Int.reduceLT, Int.reduceBEq, hks3, ek, q3, q4, ra, rw0, hi2, nat_nn, Int.toNat_natCast, gw, e5, w2])
      refine nx_keep (m3 - 1) (by omega) (by simp -dsimp -implicitDefEqProofs only [go_sem, Nat.reduceBEq, Nat.reduceAdd, Nat.reduceLeDiff, Nat.reduceMul, Int.reduceLE, Int.reduceLT, Int.reduceBEq, hks3]) ⟨k + 1, rfl, by simp -dsimp -implicitDefEqProofs only [go_sem, Nat.reduceBEq, Nat.reduceAdd, Nat.reduceLeDiff, Nat.reduceMul, Int.reduceLE, Int.reduceLT, Int.reduceBEq, w2], by omega, fun j hj => ?_⟩
      by_cases hji : j = k
      · subst hji; exact q5
      · exact hpre3 j (by omega)
    · have e5 : decide (¬ w.getD k default = e.store.refs.getD k default) = true := decide_eq_true q5
      repeat (first | rw [kz_o] | rw [kz_r0] | simp -dsimp -implicitDefEqProofs only [go_sem, Nat.reduceBEq, Nat.reduceAdd, Nat.reduceLeDiff, Nat.reduceMul, Int.reduceLE, Int.reduceLT, Int.reduceBEq, hks3, ek, q3, q4, ra, rw0, hi2, nat_nn, Int.toNat_natCast, gw])
      refine dq_intro [(0, []), (1, []), (2, []), (3, []), (4, []), (5, []), (6, []), (7, []), (8, []), (9, []), (10, [])] (by kernel_rfl) ?_
      repeat (first | rw [kz_o] | rw [kz_r0] | simp -dsimp -implicitDefEqProofs only [go_sem, Nat.reduceBEq, Nat.reduceAdd, Nat.reduceLeDiff, Nat.reduceMul, Int.reduceLE, Int.reduceLT, Int.reduceBEq, hks3, ek, q3, q4, ra, rw0, hi2, nat_nn, Int.toNat_natCast, gw, e5])
      exact ⟨hle, ⟨_, rfl⟩, by rw [decide_eq_false fun h => q5 (by rw [h])]⟩
  · repeat (first | rw [kz_o] | rw [kz_r0] | simp -dsimp -implicitDefEqProofs only [go_sem, Nat.reduceBEq, Nat.reduceAdd, Nat.reduceLeDiff, Nat.reduceMul, Int.reduceLE, Int.reduceLT, Int.reduceBEq, hks3, ek, q3])
    refine ⟨hle, ⟨_, rfl⟩, ?_⟩
    rw [decide_eq_true]
    refine List.ext_getElem (by omega) fun j a b => ?_
    have := hpre3 j (by omega)
    rwa [List.getD_eq_getElem?_getD, List.getD_eq_getElem?_getD, List.getElem?_eq_getElem a, List.getElem?_eq_getElem b] at this
end Go.Bi
end
section
set_option linter.unusedSimpArgs false
set_option linter.unusedVariables false
set_option maxRecDepth 20000
namespace Go.Bi
open Go.Proofs
open Go.Ai (wrap_i64 wrap_u8 Heap)
variable {W0 : World} {P : Program}
theorem hobE (b : Bool) : (b == b) = true := by simp
attribute [go_sem] hobE
theorem eqEngine_tree {g : H2} {c : LEngine} {bs bs' : List Nat} {ys ys' : List X} (o : OTs g bs ys (eEngine c)) (o' : OTs g bs' ys' (eEngine c)) (hf : fitEngine c) : PW Tryz.prog W0 21 [.st ys, .st ys'] g (fun y => y = .raw (.bool true)) := by
  obtain ⟨F, hF⟩ := o.lent
  obtain ⟨F', hF'⟩ := o'.lent
  exact PW.lend (.cons hF (.cons hF' .nil)) (eqEngine_ok (F := F) (F' := F') hf) (fun y h => by subst h; exact .raw)
end Go.Bi
end
section
set_option linter.unusedSimpArgs false
set_option linter.unusedVariables false
set_option maxRecDepth 20000
namespace Go.Bi
open Go.Proofs
open Go.Ai (wrap_i64 wrap_u8 Heap)
variable {W0 : World} {P : Program}
set_option maxHeartbeats 2000000
def pc (l : List LMerge) : Nat → Int → ByteArray
  | 0, t => byteT t
  | n + 1, t => if t < 256 then byteT t else pc l n (mAt l (t - 256).toNat).a ++ pc l n (mAt l (t - 256).toNat).b
def rightM (l : List LMerge) : Prop := ∀ i, i < l.length → tokAt l i = true ∧ nAt l i ≤ 64
theorem right_of {l : List LMerge} (h : mergesB l = true) : l.length ≤ 16 ∧ rightM l := by
  unfold mergesB at h
  simp only [Bool.and_eq_true, decide_eq_true_eq, List.all_eq_true, List.mem_range] at h
  refine ⟨h.1, fun i hi => ?_⟩
  have := (h.2 i hi).1
  simp only [stepOk, Bool.and_eq_true, decide_eq_true_eq] at this
  exact this
theorem tok_rng {l : List LMerge} (h : rightM l) {i : Nat} (hi : i < l.length) : (0 ≤ (mAt l i).a ∧ (mAt l i).a ≤ 255 + (i : Int)) ∧ (0 ≤ (mAt l i).b ∧ (mAt l i).b ≤ 255 + (i : Int)) := by
  have := (h i hi).1
  simp only [tokAt, Bool.and_eq_true] at this
  exact ⟨inI_tt this.1, inI_tt this.2⟩
theorem outs_at {l : List LMerge} {k : Nat} : ∀ {n : Nat}, k < n → latM (outs l n) k = nAt l k
  | 0, h => by omega
  | n + 1, h => by
    have e : outs l (n + 1) = outs l n ++ [nAt l n] := rfl
    rw [e]
    unfold latM
    by_cases hk : k < n
    · rw [List.getD_eq_getElem?_getD, List.getElem?_append_left (by rw [outs_len]; exact hk), ← List.getD_eq_getElem?_getD]
      exact outs_at hk
    · obtain rfl : k = n := by omega
      rw [List.getD_eq_getElem?_getD, List.getElem?_append_right (by rw [outs_len]; exact Nat.le_refl _), outs_len, Nat.sub_self]; rfl
theorem one_at {l : List LMerge} {n i : Nat} {t : Int} (h : t ≤ 255 + (i : Int)) (hi : i ≤ n) : szOne (outs l n) t = szOne (outs l i) t := by
  unfold szOne
  split
  · rfl
  · rw [outs_at (by omega), outs_at (by omega)]
theorem pc_size {l : List LMerge} (h : rightM l) : ∀ {n : Nat} {t : Int}, n ≤ l.length → 0 ≤ t → t < 256 + (n : Int) → ((pc l n t).size : Int) = szOne (outs l n) t
  | 0, t, hn, h0, h1 => by
    rw [szOne, if_pos (by omega)]; rfl
  | n + 1, t, hn, h0, h1 => by
    by_cases ht : t < 256
    · rw [pc, if_pos ht, szOne, if_pos ht]; rfl
    · obtain ⟨i, hi⟩ : ∃ i : Nat, t = 256 + (i : Int) := ⟨(t - 256).toNat, by omega⟩
      have hi2 : (t - 256).toNat = i := by omega
      obtain ⟨⟨a0, a1⟩, b0, b1⟩ := tok_rng h (show i < l.length by omega)
      rw [pc, if_neg ht, hi2, ByteArray.size_append, szOne, if_neg ht, hi2, outs_at (by omega)]
      have e1 := pc_size h (n := n) (by omega) a0 (by omega)
      have e2 := pc_size h (n := n) (by omega) b0 (by omega)
      rw [one_at a1 (by omega)] at e1
      rw [one_at b1 (by omega)] at e2
      unfold nAt
      omega
theorem pc_64 {l : List LMerge} (h : rightM l) {n : Nat} {t : Int} (hn : n ≤ l.length) (h0 : 0 ≤ t) (h1 : t < 256 + (n : Int)) : (pc l n t).size ≤ 64 := by
  have := pc_size h hn h0 h1
  unfold szOne at this
  split at this
  · omega
  · rw [outs_at (by omega)] at this
    have := (h (t - 256).toNat (by omega)).2
    omega
theorem implPiece_ok {l : List LMerge} (hr : rightM l) (hl : l.length ≤ 16) : ∀ {n : Nat} {t : Int} {f : Adr} {g : H2}, n ≤ l.length → 0 ≤ t → t < 256 + (n : Int) → PW Tryz.prog W0 227 [.sl f 2 (rMergeS l), .raw (.int .i64 t)] g (fun y => y = .raw (.string (pc l n t)))
  | n, t, f, g, hn, h0, h1 => by
    refine PW.scalar ?_
    refine start (P := Tryz.prog) [[0, 1], [0, 1], [1], [0, 1], [0, 5]] (by kernel_rfl) Tryz.func227 rfl (by decide) (by decide +kernel) (rs := [.tmp 4]) rfl rfl (Nat.le_of_ble_eq_true rfl) ?_
    intro wf
    repeat (first | rw [kz_o] | rw [kz_r0] | simp -dsimp -implicitDefEqProofs only [go_sem, Nat.reduceBEq, Nat.reduceAdd, Nat.reduceLeDiff, Nat.reduceMul, Int.reduceLE, Int.reduceLT, Int.reduceBEq])
    refine gz_dec (fun h2 => ?_) (fun h2 => ?_)
    · repeat (first | rw [kz_o] | rw [kz_r0] | simp -dsimp -implicitDefEqProofs only [go_sem, Nat.reduceBEq, Nat.reduceAdd, Nat.reduceLeDiff, Nat.reduceMul, Int.reduceLE, Int.reduceLT, Int.reduceBEq, h2])
      have e : pc l n t = byteT t := by cases n with
        | zero => rfl
        | succ n => rw [pc, if_pos h2]
      exact ⟨le_up (H2.le.refl _) (Nat.le_succ _), ⟨_, rfl⟩, by rw [e, wrap_u8]; rfl⟩
    · obtain ⟨i, hi⟩ : ∃ i : Nat, t = 256 + (i : Int) := ⟨(t - 256).toNat, by omega⟩
      have hi2 : (t - 256).toNat = i := by omega
      cases n with
      | zero => omega
      | succ n =>
      obtain ⟨⟨a0, a1⟩, b0, b1⟩ := tok_rng hr (show i < l.length by omega)
      unfold mAt at a0 a1 b0 b1
      have w1 : IntKind.i64.wrap (t - 256) = (i : Int) := by rw [wrap_i64] <;> omega
      have h3 : i < l.length := by omega
      repeat (first | rw [kz_o] | rw [kz_r0] | simp -dsimp -implicitDefEqProofs only [go_sem, Nat.reduceBEq, Nat.reduceAdd, Nat.reduceLeDiff, Nat.reduceMul, Int.reduceLE, Int.reduceLT, Int.reduceBEq, h2, w1, h3, hoo])
      refine dq_intro [(0, []), (1, []), (2, []), (4, []), (5, []), (6, []), (3, [6]), (7, []), (8, []), (9, [])] (by kernel_rfl) ?_
      repeat (first | rw [kz_o] | rw [kz_r0] | simp -dsimp -implicitDefEqProofs only [go_sem, Nat.reduceBEq, Nat.reduceAdd, Nat.reduceLeDiff, Nat.reduceMul, Int.reduceLE, Int.reduceLT, Int.reduceBEq, hoo])
      refine pw_intro (implPiece_ok hr hl (n := n) (by omega) a0 (by omega)) ?_
      rintro _ n1 hn1 rfl
      simp only [hn_push] at hn1
      rw [kz_r]
      refine ⟨by simp -dsimp -implicitDefEqProofs only [go_sem, Nat.reduceBEq, Nat.reduceAdd, Nat.reduceLeDiff, Nat.reduceMul, Int.reduceLE, Int.reduceLT, Int.reduceBEq, hoo], ?_⟩
      repeat (first | rw [kz_o] | rw [kz_r0] | simp -dsimp -implicitDefEqProofs only [go_sem, Nat.reduceBEq, Nat.reduceAdd, Nat.reduceLeDiff, Nat.reduceMul, Int.reduceLE, Int.reduceLT, Int.reduceBEq, hoo])
      refine pw_intro (implPiece_ok hr hl (n := n) (by omega) b0 (by omega)) ?_
      rintro _ n2 hn2 rfl
      simp only [hn_up] at hn2
      have s1 := pc_64 hr (n := n) (by omega) a0 (by omega)
      have s2 := pc_64 hr (n := n) (by omega) b0 (by omega)
      have a2 : (((pc l n (l.getD i default).a).size + (pc l n (l.getD i default).b).size : Nat) : Int) ≤ 9223372036854775807 := by omega
      rw [kz_r]
      refine ⟨by simp -dsimp -implicitDefEqProofs only [go_sem, Nat.reduceBEq, Nat.reduceAdd, Nat.reduceLeDiff, Nat.reduceMul, Int.reduceLE, Int.reduceLT, Int.reduceBEq, hoo], ?_⟩
      repeat (first | rw [kz_o] | rw [kz_r0] | simp -dsimp -implicitDefEqProofs only [go_sem, Nat.reduceBEq, Nat.reduceAdd, Nat.reduceLeDiff, Nat.reduceMul, Int.reduceLE, Int.reduceLT, Int.reduceBEq, a2, hoo])
      exact ⟨le_up (le_up (le_push (H2.le.refl _)) (by rw [hn_push]; omega)) (by rw [hn_up]; omega), ⟨_, rfl⟩, by rw [pc, if_neg h2, hi2]; rfl⟩
theorem specPiece_ok {l : List LMerge} (hr : rightM l) (hl : l.length ≤ 16) : ∀ {n : Nat} {t : Int} {f : Adr} {g : H2}, n ≤ l.length → 0 ≤ t → t < 256 + (n : Int) → PW Tryz.prog W0 225 [.sl f 2 (rMergeS l), .raw (.int .i64 t)] g (fun y => y = .raw (.string (pc l n t)))
  | n, t, f, g, hn, h0, h1 => by
    refine PW.scalar ?_
    refine start (P := Tryz.prog) [[0, 1], [0, 1], [1], [0, 1]] (by kernel_rfl) Tryz.func225 rfl (by decide) (by decide +kernel) (rs := [.tmp 4]) rfl rfl (Nat.le_of_ble_eq_true rfl) ?_
    intro wf
    repeat (first | rw [kz_o] | rw [kz_r0] | simp -dsimp -implicitDefEqProofs only [go_sem, Nat.reduceBEq, Nat.reduceAdd, Nat.reduceLeDiff, Nat.reduceMul, Int.reduceLE, Int.reduceLT, Int.reduceBEq])
    refine gz_dec (fun h2 => ?_) (fun h2 => ?_)
    · repeat (first | rw [kz_o] | rw [kz_r0] | simp -dsimp -implicitDefEqProofs only [go_sem, Nat.reduceBEq, Nat.reduceAdd, Nat.reduceLeDiff, Nat.reduceMul, Int.reduceLE, Int.reduceLT, Int.reduceBEq, h2])
      have e : pc l n t = byteT t := by cases n with
        | zero => rfl
        | succ n => rw [pc, if_pos h2]
      exact ⟨le_up (H2.le.refl _) (Nat.le_succ _), ⟨_, rfl⟩, by rw [e, wrap_u8]; rfl⟩
    · obtain ⟨i, hi⟩ : ∃ i : Nat, t = 256 + (i : Int) := ⟨(t - 256).toNat, by omega⟩
      have hi2 : (t - 256).toNat = i := by omega
      cases n with
      | zero => omega
      | succ n =>
      obtain ⟨⟨a0, a1⟩, b0, b1⟩ := tok_rng hr (show i < l.length by omega)
      unfold mAt at a0 a1 b0 b1
      have w1 : IntKind.i64.wrap (t - 256) = (i : Int) := by rw [wrap_i64] <;> omega
      have h3 : i < l.length := by omega
      repeat (first | rw [kz_o] | rw [kz_r0] | simp -dsimp -implicitDefEqProofs only [go_sem, Nat.reduceBEq, Nat.reduceAdd, Nat.reduceLeDiff, Nat.reduceMul, Int.reduceLE, Int.reduceLT, Int.reduceBEq, h2, w1, h3, hoo])
      refine dq_intro [(0, []), (1, []), (2, []), (3, []), (4, []), (5, []), (6, []), (8, []), (9, []), (10, []), (11, []), (12, []), (13, []), (14, []), (7, [14]), (15, []), (16, []), (17, [])] (by kernel_rfl) ?_
      repeat (first | rw [kz_o] | rw [kz_r0] | simp -dsimp -implicitDefEqProofs only [go_sem, Nat.reduceBEq, Nat.reduceAdd, Nat.reduceLeDiff, Nat.reduceMul, Int.reduceLE, Int.reduceLT, Int.reduceBEq, w1, h3, hoo])
      refine pw_intro (specPiece_ok hr hl (n := n) (by omega) a0 (by omega)) ?_
      rintro _ n1 hn1 rfl
      repeat (first | rw [kz_o] | rw [kz_r0] | simp -dsimp -implicitDefEqProofs only [go_sem, Nat.reduceBEq, Nat.reduceAdd, Nat.reduceLeDiff, Nat.reduceMul, Int.reduceLE, Int.reduceLT, Int.reduceBEq, w1, h3, hoo])
      refine pw_intro (specPiece_ok hr hl (n := n) (by omega) b0 (by omega)) ?_
      rintro _ n2 hn2 rfl
      simp only [hn_up] at hn2
      have s1 := pc_64 hr (n := n) (by omega) a0 (by omega)
      have s2 := pc_64 hr (n := n) (by omega) b0 (by omega)
      have a2 : (((pc l n (l.getD i default).a).size + (pc l n (l.getD i default).b).size : Nat) : Int) ≤ 9223372036854775807 := by omega
      repeat (first | rw [kz_o] | rw [kz_r0] | simp -dsimp -implicitDefEqProofs only [go_sem, Nat.reduceBEq, Nat.reduceAdd, Nat.reduceLeDiff, Nat.reduceMul, Int.reduceLE, Int.reduceLT, Int.reduceBEq, a2, hoo])
      exact ⟨le_up (le_up (H2.le.refl _) hn1) (by rw [hn_up]; omega), ⟨_, rfl⟩, by rw [pc, if_neg h2, hi2]; rfl⟩
end Go.Bi
end
section
set_option linter.unusedSimpArgs false
set_option linter.unusedVariables false
set_option maxRecDepth 20000
namespace Go.Bi
open Go.Proofs
open Go.Ai (wrap_i64 wrap_u8 Heap)
variable {W0 : World} {P : Program}
set_option maxHeartbeats 2000000
def lsb (s : ByteArray) : List UInt8 := s.data.toList
def PlainK (x : X) : Prop := (∃ v, x = .raw v) ∨ ∃ vs : List Value, x = .tp (vs.map .raw)
theorem PlainK.fz {p q : Nat → Prop} {g : H2} {x : X} (h : PlainK x) : Fz p q g x x := by
  rcases h with ⟨v, rfl⟩ | ⟨vs, rfl⟩
  · exact .raw
  · refine .tp rfl fun i hi hi' => ?_
    simp only [List.getElem_map]; exact .raw
theorem PW.plainK {f : FuncId} {xs : List X} {g : H2} {Q : X → Prop} (c : WC2 P W0 f xs g fun x g' => g.le g' ∧ PlainK x ∧ Q x) : PW P W0 f xs g Q :=
  (PW.of (q := fun _ => True) (Q := Q) (c.mono fun x g' ⟨h1, h2, h3⟩ => ⟨h1, x, h2.fz, h3⟩)).mono fun y h => h.1
def tokB (l : List LMerge) (ts : List Int) : Bool := mergesB l && (decide ((ts.length : Int) ≤ 200) && allI ts 0 (255 + (l.length : Int)))
def decS (l : List LMerge) (ts : List Int) : ByteArray := ts.foldl (fun s t => s ++ pc l l.length t) ⟨#[]⟩
def decR (l : List LMerge) (ts : List Int) : X := if tokB l ts = true then .tp [.raw (.string (decS l ts)), .raw (.bool true)] else .tp [.raw (.string ⟨#[]⟩), .raw (.bool false)]
theorem cv_fromS {s d e : TypeId} {h : H2} {b : ByteArray} (hs : Go.Ai.cls? P s = some .str) (hd : Go.Ai.cls? P d = some .sl) (he : Go.Ai.elt? P d = some (e, 1, 1)) (hc : Go.Ai.cls? P e = some (.int .u8)) (hb : b.size ≤ 1048576) :
    convz P h s d (.raw (.string b)) .mk = some (.raw (.slice (some ⟨hn h .mk, 0, none⟩) b.size b.size), h.push ⟨1, (lsb b).map cB⟩) := by
  simp only [convz, convX, hs, hd, he, hc, if_pos hb]; rfl
theorem allok_cB : ∀ {bs : List UInt8}, (bs.map cB).all okX = true
  | [] => rfl
  | b :: bs => by rw [List.map_cons, List.all_cons, allok_cB]; rfl
theorem implTokens_ok {f f' : Adr} {l : List LMerge} {ts : List Int} {g : H2} (hl : l.length ≤ 1048576) (ht : ts.length ≤ 1048576) : PW Tryz.prog W0 226 [.sl f 2 (rMergeS l), .sl f' 1 (ints ts), .raw (.int .i64 200)] g (fun y => y = .raw (.bool (tokB l ts))) := by
  refine PW.scalar ?_
  refine start (P := Tryz.prog) [[0, 1, 2], [0, 1, 2]] (by kernel_rfl) Tryz.func226 rfl (by decide) (by decide +kernel) (rs := [.tmp 6]) rfl rfl (Nat.le_of_ble_eq_true rfl) ?_
  intro wf
  repeat (first | rw [kz_o] | rw [kz_r0] | simp -dsimp -implicitDefEqProofs only [go_sem, Nat.reduceBEq, Nat.reduceAdd, Nat.reduceLeDiff, Nat.reduceMul, Int.reduceLE, Int.reduceLT, Int.reduceBEq])
  refine pw_intro (implMergesOk_ok hl) ?_
  rintro _ n1 hn1 rfl
  have w1 : IntKind.i64.wrap (255 + (l.length : Int)) = 255 + (l.length : Int) := by rw [wrap_i64] <;> omega
  cases h1 : mergesB l
  · repeat (first | rw [kz_o] | rw [kz_r0] | simp -dsimp -implicitDefEqProofs only [go_sem, Nat.reduceBEq, Nat.reduceAdd, Nat.reduceLeDiff, Nat.reduceMul, Int.reduceLE, Int.reduceLT, Int.reduceBEq])
    exact ⟨le_up (H2.le.refl _) hn1, ⟨_, rfl⟩, by rw [tokB, h1]; rfl⟩
  by_cases h2 : (ts.length : Int) ≤ 200
  · repeat (first | rw [kz_o] | rw [kz_r0] | simp -dsimp -implicitDefEqProofs only [go_sem, Nat.reduceBEq, Nat.reduceAdd, Nat.reduceLeDiff, Nat.reduceMul, Int.reduceLE, Int.reduceLT, Int.reduceBEq, h2, w1])
    refine pw_intro (allIn_ok (by omega)) ?_
    rintro _ n2 hn2 rfl
    rw [hn_up] at hn2
    repeat (first | rw [kz_o] | rw [kz_r0] | simp -dsimp -implicitDefEqProofs only [go_sem, Nat.reduceBEq, Nat.reduceAdd, Nat.reduceLeDiff, Nat.reduceMul, Int.reduceLE, Int.reduceLT, Int.reduceBEq])
    exact ⟨le_up (le_up (H2.le.refl _) hn1) (by rw [hn_up]; exact hn2), ⟨_, rfl⟩, by rw [tokB, h1]; simp [h2]⟩
  · repeat (first | rw [kz_o] | rw [kz_r0] | simp -dsimp -implicitDefEqProofs only [go_sem, Nat.reduceBEq, Nat.reduceAdd, Nat.reduceLeDiff, Nat.reduceMul, Int.reduceLE, Int.reduceLT, Int.reduceBEq, h2, w1])
    exact ⟨le_up (H2.le.refl _) hn1, ⟨_, rfl⟩, by rw [tokB, h1]; simp [h2]⟩
theorem l07Token_ok {f : Adr} {l : List LMerge} {t : Int} {g : H2} (hl : l.length ≤ 1048576) : PW Tryz.prog W0 251 [.sl f 2 (rMergeS l), .raw (.int .i64 t)] g (fun y => y = .raw (.bool (inI t 0 (255 + (l.length : Int))))) := by
  refine PW.scalar ?_
  refine start (P := Tryz.prog) [[0, 1], [0, 1]] (by kernel_rfl) Tryz.func251 rfl (by decide) (by decide +kernel) (rs := [.tmp 4]) rfl rfl (Nat.le_of_ble_eq_true rfl) ?_
  intro wf
  have w1 : IntKind.i64.wrap (255 + (l.length : Int)) = 255 + (l.length : Int) := by rw [wrap_i64] <;> omega
  repeat (first | rw [kz_o] | rw [kz_r0] | simp -dsimp -implicitDefEqProofs only [go_sem, Nat.reduceBEq, Nat.reduceAdd, Nat.reduceLeDiff, Nat.reduceMul, Int.reduceLE, Int.reduceLT, Int.reduceBEq, w1])
  refine wz_intro l01In_ok ?_
  rintro _ h' ⟨rfl, rfl⟩
  repeat (first | rw [kz_o] | rw [kz_r0] | simp -dsimp -implicitDefEqProofs only [go_sem, Nat.reduceBEq, Nat.reduceAdd, Nat.reduceLeDiff, Nat.reduceMul, Int.reduceLE, Int.reduceLT, Int.reduceBEq])
  exact ⟨H2.le.refl _, ⟨_, rfl⟩, rfl⟩
theorem specTokens_ok {f f' : Adr} {l : List LMerge} {ts : List Int} {g : H2} (hl : l.length ≤ 1048576) (ht : ts.length ≤ 1048576) : PW Tryz.prog W0 224 [.sl f 2 (rMergeS l), .sl f' 1 (ints ts)] g (fun y => y = .raw (.bool (tokB l ts))) := by
  refine PW.scalar ?_
  refine start (P := Tryz.prog) [[0, 1], [0, 1], [], [0, 1], [0, 1, 5], [0, 1, 5], [0, 1, 5], [], []] (by kernel_rfl) Tryz.func224 rfl (by decide) (by decide +kernel) (rs := [.tmp 4]) rfl rfl (Nat.le_of_ble_eq_true rfl) ?_
  intro wf
  repeat (first | rw [kz_o] | rw [kz_r0] | simp -dsimp -implicitDefEqProofs only [go_sem, Nat.reduceBEq, Nat.reduceAdd, Nat.reduceLeDiff, Nat.reduceMul, Int.reduceLE, Int.reduceLT, Int.reduceBEq])
  refine pw_intro (specMergesOk_ok hl) ?_
  rintro _ n1 hn1 rfl
  cases h1 : mergesB l
  · repeat (first | rw [kz_o] | rw [kz_r0] | simp -dsimp -implicitDefEqProofs only [go_sem, Nat.reduceBEq, Nat.reduceAdd, Nat.reduceLeDiff, Nat.reduceMul, Int.reduceLE, Int.reduceLT, Int.reduceBEq])
    exact ⟨le_up (H2.le.refl _) hn1, ⟨_, rfl⟩, by rw [tokB, h1]; rfl⟩
  by_cases h2 : (ts.length : Int) > 200
  · repeat (first | rw [kz_o] | rw [kz_r0] | simp -dsimp -implicitDefEqProofs only [go_sem, Nat.reduceBEq, Nat.reduceAdd, Nat.reduceLeDiff, Nat.reduceMul, Int.reduceLE, Int.reduceLT, Int.reduceBEq, h2])
    exact ⟨le_up (H2.le.refl _) hn1, ⟨_, rfl⟩, by rw [tokB, h1]; simp; intro h; omega⟩
  repeat (first | rw [kz_o] | rw [kz_r0] | simp -dsimp -implicitDefEqProofs only [go_sem, Nat.reduceBEq, Nat.reduceAdd, Nat.reduceLeDiff, Nat.reduceMul, Int.reduceLE, Int.reduceLT, Int.reduceBEq, h2])
  refine lz_keep [0, 1] (fun m e h' => ∃ (i n : Nat), h' = g.up n ∧ hn g .mk ≤ n ∧ look e 5 .mk = .raw (.int .i64 (i : Nat)) ∧ m + i = ts.length ∧ ∀ j, j < i → inI (ts.getD j default) 0 (255 + (l.length : Int)) = true) ts.length ?_ ?_
  · exact ⟨0, n1, rfl, hn1, by simp -dsimp -implicitDefEqProofs only [go_sem, Nat.reduceBEq, Nat.reduceAdd, Nat.reduceLeDiff, Nat.reduceMul, Int.reduceLE, Int.reduceLT, Int.reduceBEq], by omega, fun j hj => by omega⟩
  · rintro m e h' hks ⟨i, n, rfl, hn2, e5, hm, hpre⟩
    simp -dsimp -implicitDefEqProofs only [go_sem, Nat.reduceBEq, Nat.reduceAdd, Nat.reduceLeDiff, Nat.reduceMul, Int.reduceLE, Int.reduceLT, Int.reduceBEq] at hks
    by_cases h3 : (i : Int) < (ts.length : Int)
    · have h4 : i < ts.length := by omega
      repeat (first | rw [kz_o] | rw [kz_r0] | simp -dsimp -implicitDefEqProofs only [go_sem, Nat.reduceBEq, Nat.reduceAdd, Nat.reduceLeDiff, Nat.reduceMul, Int.reduceLE, Int.reduceLT, Int.reduceBEq, hks, e5, h3, h4])
      refine pw_intro (l07Token_ok hl) ?_
      rintro _ n3 hn3 rfl
      rw [hn_up] at hn3
      have w1 : IntKind.i64.wrap ((i : Int) + 1) = ((i + 1 : Nat) : Int) := by rw [wrap_i64] <;> omega
      cases h5 : inI (ts.getD i default) 0 (255 + (l.length : Int))
      · repeat (first | rw [kz_o] | rw [kz_r0] | simp -dsimp -implicitDefEqProofs only [go_sem, Nat.reduceBEq, Nat.reduceAdd, Nat.reduceLeDiff, Nat.reduceMul, Int.reduceLE, Int.reduceLT, Int.reduceBEq, hks, e5, h3, h4])
        exact ⟨le_up (le_up (H2.le.refl _) hn2) (by rw [hn_up]; omega), ⟨_, rfl⟩, by rw [tokB, h1, allI, all_none h4 h5]; simp⟩
      · repeat (first | rw [kz_o] | rw [kz_r0] | simp -dsimp -implicitDefEqProofs only [go_sem, Nat.reduceBEq, Nat.reduceAdd, Nat.reduceLeDiff, Nat.reduceMul, Int.reduceLE, Int.reduceLT, Int.reduceBEq, hks, e5, h3, h4, w1])
        refine nx_keep (m - 1) (by omega) (by simp -dsimp -implicitDefEqProofs only [go_sem, Nat.reduceBEq, Nat.reduceAdd, Nat.reduceLeDiff, Nat.reduceMul, Int.reduceLE, Int.reduceLT, Int.reduceBEq, hks]) ⟨i + 1, n3, rfl, by omega, by simp -dsimp -implicitDefEqProofs only [go_sem, Nat.reduceBEq, Nat.reduceAdd, Nat.reduceLeDiff, Nat.reduceMul, Int.reduceLE, Int.reduceLT, Int.reduceBEq, w1], by omega, fun j hj => ?_⟩
        by_cases hji : j = i
        · subst hji; exact h5
        · exact hpre j (by omega)
    · repeat (first | rw [kz_o] | rw [kz_r0] | simp -dsimp -implicitDefEqProofs only [go_sem, Nat.reduceBEq, Nat.reduceAdd, Nat.reduceLeDiff, Nat.reduceMul, Int.reduceLE, Int.reduceLT, Int.reduceBEq, hks, e5, h3])
      exact ⟨le_up (H2.le.refl _) (by omega), ⟨_, rfl⟩, by rw [tokB, h1, allI, all_getD fun j hj => hpre j (by omega)]; simp; omega⟩
theorem decS_take {l : List LMerge} {ts : List Int} {k : Nat} (hk : k < ts.length) : decS l (ts.take (k + 1)) = decS l (ts.take k) ++ pc l l.length (ts.getD k default) := by
  unfold decS
  rw [List.take_succ_eq_append_getElem hk, List.foldl_append, List.getD_eq_getElem?_getD, List.getElem?_eq_getElem hk]; rfl
theorem decS_size {l : List LMerge} (hr : rightM l) : ∀ {ts : List Int}, (∀ t ∈ ts, 0 ≤ t ∧ t < 256 + (l.length : Int)) → (decS l ts).size ≤ 64 * ts.length := by
  intro ts
  have key : ∀ {ts : List Int} {b : ByteArray}, (∀ t ∈ ts, 0 ≤ t ∧ t < 256 + (l.length : Int)) → (ts.foldl (fun s t => s ++ pc l l.length t) b).size ≤ b.size + 64 * ts.length := by
    intro ts
    induction ts with
    | nil => intro b _; simp
    | cons t ts ih =>
      intro b h
      have h1 := h t (by simp)
      have h2 := pc_64 hr (n := l.length) (Nat.le_refl _) h1.1 h1.2
      have h3 := ih (b := b ++ pc l l.length t) fun u hu => h u (by simp [hu])
      rw [List.foldl_cons, List.length_cons]
      rw [ByteArray.size_append] at h3
      omega
  intro h
  have := key (b := ⟨#[]⟩) h
  have e : (ByteArray.mk #[]).size = 0 := rfl
  unfold decS
  omega
theorem tok_facts {l : List LMerge} {ts : List Int} (h : tokB l ts = true) : (l.length ≤ 16 ∧ rightM l) ∧ ts.length ≤ 200 ∧ ∀ t ∈ ts, 0 ≤ t ∧ t < 256 + (l.length : Int) := by
  unfold tokB at h
  simp only [Bool.and_eq_true, decide_eq_true_eq, allI, List.all_eq_true] at h
  exact ⟨right_of h.1, by omega, fun t ht => by have := inI_tt (h.2.2 t ht); omega⟩
theorem getD_memI {ts : List Int} {i : Nat} (h : i < ts.length) : ts.getD i default ∈ ts := by
  rw [List.getD_eq_getElem?_getD, List.getElem?_eq_getElem h]; exact List.getElem_mem h
theorem implDecode_ok {f f' : Adr} {l : List LMerge} {ts : List Int} {g : H2} (hl : l.length ≤ 1048576) (ht : ts.length ≤ 1048576) : PW Tryz.prog W0 184 [.sl f 2 (rMergeS l), .sl f' 1 (ints ts)] g (fun y => y = decR l ts) := by
  refine PW.plainK ?_
  refine start (P := Tryz.prog) [[0, 1], [0, 1], [], [0, 1], [0, 1, 6], [0, 6, 13, 14, 15], [0, 6, 13, 14, 15], [0, 6, 8, 13, 14, 15], [0, 6, 13, 14, 15], [6]] (by kernel_rfl) Tryz.func184 rfl (by decide) (by decide +kernel) (rs := [.tmp 4, .tmp 5]) rfl rfl (Nat.le_of_ble_eq_true rfl) ?_
  intro wf
  repeat (first | rw [kz_o] | rw [kz_r0] | simp -dsimp -implicitDefEqProofs only [go_sem, Nat.reduceBEq, Nat.reduceAdd, Nat.reduceLeDiff, Nat.reduceMul, Int.reduceLE, Int.reduceLT, Int.reduceBEq])
  refine pw_intro (implTokens_ok hl ht) ?_
  rintro _ n1 hn1 rfl
  cases htk : tokB l ts
  · repeat (first | rw [kz_o] | rw [kz_r0] | simp -dsimp -implicitDefEqProofs only [go_sem, Nat.reduceBEq, Nat.reduceAdd, Nat.reduceLeDiff, Nat.reduceMul, Int.reduceLE, Int.reduceLT, Int.reduceBEq])
    exact ⟨le_up (H2.le.refl _) hn1, .inr ⟨[_, _], rfl⟩, by rw [decR, htk]; rfl⟩
  obtain ⟨⟨l16, hr⟩, h200, hts⟩ := tok_facts htk
  repeat (first | rw [kz_o] | rw [kz_r0] | simp -dsimp -implicitDefEqProofs only [go_sem, Nat.reduceBEq, Nat.reduceAdd, Nat.reduceLeDiff, Nat.reduceMul, Int.reduceLE, Int.reduceLT, Int.reduceBEq])
  refine lz_keep [0, 13, 14] (fun m e h' => ∃ (i n : Nat), h' = g.up n ∧ hn g .mk ≤ n ∧ look e 15 .mk = .raw (.int .i64 (i : Nat)) ∧ look e 6 .mk = .raw (.string (decS l (ts.take i))) ∧ m + i = ts.length) ts.length ?_ ?_
  · exact ⟨0, n1, rfl, hn1, by simp -dsimp -implicitDefEqProofs only [go_sem, Nat.reduceBEq, Nat.reduceAdd, Nat.reduceLeDiff, Nat.reduceMul, Int.reduceLE, Int.reduceLT, Int.reduceBEq], by simp -dsimp -implicitDefEqProofs only [go_sem, Nat.reduceBEq, Nat.reduceAdd, Nat.reduceLeDiff, Nat.reduceMul, Int.reduceLE, Int.reduceLT, Int.reduceBEq] <;> rfl, by omega⟩
  · rintro m e h' hks ⟨i, n, rfl, hn2, e15, e6, hm⟩
    simp -dsimp -implicitDefEqProofs only [go_sem, Nat.reduceBEq, Nat.reduceAdd, Nat.reduceLeDiff, Nat.reduceMul, Int.reduceLE, Int.reduceLT, Int.reduceBEq] at hks
    by_cases h3 : (i : Int) < (ts.length : Int)
    · have h4 : i < ts.length := by omega
      have h5 := hts _ (getD_memI h4)
      repeat (first | rw [kz_o] | rw [kz_r0] | simp -dsimp -implicitDefEqProofs only [go_sem, Nat.reduceBEq, Nat.reduceAdd, Nat.reduceLeDiff, Nat.reduceMul, Int.reduceLE, Int.reduceLT, Int.reduceBEq, hks, e15, e6, h3, h4])
      refine pw_intro (implPiece_ok hr l16 (n := l.length) (Nat.le_refl _) h5.1 h5.2) ?_
      rintro _ n3 hn3 rfl
      rw [hn_up] at hn3
      have w1 : IntKind.i64.wrap ((i : Int) + 1) = ((i + 1 : Nat) : Int) := by rw [wrap_i64] <;> omega
      have s1 := decS_size hr (ts := ts.take i) fun t ht => hts t (List.mem_of_mem_take ht)
      have s2 := pc_64 hr (n := l.length) (Nat.le_refl _) h5.1 h5.2
      rw [List.length_take] at s1
      have a1 : (((decS l (ts.take i)).size + (pc l l.length (ts.getD i default)).size : Nat) : Int) ≤ 9223372036854775807 := by omega
      repeat (first | rw [kz_o] | rw [kz_r0] | simp -dsimp -implicitDefEqProofs only [go_sem, Nat.reduceBEq, Nat.reduceAdd, Nat.reduceLeDiff, Nat.reduceMul, Int.reduceLE, Int.reduceLT, Int.reduceBEq, hks, e15, e6, w1, a1])
      exact nx_keep (m - 1) (by omega) (by simp -dsimp -implicitDefEqProofs only [go_sem, Nat.reduceBEq, Nat.reduceAdd, Nat.reduceLeDiff, Nat.reduceMul, Int.reduceLE, Int.reduceLT, Int.reduceBEq, hks]) ⟨i + 1, n3, rfl, by omega, by simp -dsimp -implicitDefEqProofs only [go_sem, Nat.reduceBEq, Nat.reduceAdd, Nat.reduceLeDiff, Nat.reduceMul, Int.reduceLE, Int.reduceLT, Int.reduceBEq, w1], by simp -dsimp -implicitDefEqProofs only [go_sem, Nat.reduceBEq, Nat.reduceAdd, Nat.reduceLeDiff, Nat.reduceMul, Int.reduceLE, Int.reduceLT, Int.reduceBEq, decS_take h4], by omega⟩
    · obtain rfl : i = ts.length := by omega
      rw [List.take_length] at e6
      repeat (first | rw [kz_o] | rw [kz_r0] | simp -dsimp -implicitDefEqProofs only [go_sem, Nat.reduceBEq, Nat.reduceAdd, Nat.reduceLeDiff, Nat.reduceMul, Int.reduceLE, Int.reduceLT, Int.reduceBEq, hks, e15, e6, h3])
      exact ⟨le_up (H2.le.refl _) hn2, .inr ⟨[_, _], rfl⟩, by rw [decR, htk]; rfl⟩
theorem specDecode_ok {f f' : Adr} {l : List LMerge} {ts : List Int} {g : H2} (hl : l.length ≤ 1048576) (ht : ts.length ≤ 1048576) : PW Tryz.prog W0 182 [.sl f 2 (rMergeS l), .sl f' 1 (ints ts)] g (fun y => y = decR l ts) := by
  refine PW.plainK ?_
  refine start (P := Tryz.prog) [[0, 1], [0, 1], [], [0, 1], [0, 1, 6], [0, 1, 6, 7], [0, 1, 6, 7], [0, 1, 6, 7], [6]] (by kernel_rfl) Tryz.func182 rfl (by decide) (by decide +kernel) (rs := [.tmp 4, .tmp 5]) rfl rfl (Nat.le_of_ble_eq_true rfl) ?_
  intro wf
  repeat (first | rw [kz_o] | rw [kz_r0] | simp -dsimp -implicitDefEqProofs only [go_sem, Nat.reduceBEq, Nat.reduceAdd, Nat.reduceLeDiff, Nat.reduceMul, Int.reduceLE, Int.reduceLT, Int.reduceBEq])
  refine pw_intro (specTokens_ok hl ht) ?_
  rintro _ n1 hn1 rfl
  cases htk : tokB l ts
  · repeat (first | rw [kz_o] | rw [kz_r0] | simp -dsimp -implicitDefEqProofs only [go_sem, Nat.reduceBEq, Nat.reduceAdd, Nat.reduceLeDiff, Nat.reduceMul, Int.reduceLE, Int.reduceLT, Int.reduceBEq])
    exact ⟨le_up (H2.le.refl _) hn1, .inr ⟨[_, _], rfl⟩, by rw [decR, htk]; rfl⟩
  obtain ⟨⟨l16, hr⟩, h200, hts⟩ := tok_facts htk
  repeat (first | rw [kz_o] | rw [kz_r0] | simp -dsimp -implicitDefEqProofs only [go_sem, Nat.reduceBEq, Nat.reduceAdd, Nat.reduceLeDiff, Nat.reduceMul, Int.reduceLE, Int.reduceLT, Int.reduceBEq])
  refine lz_keep [0, 1] (fun m e h' => ∃ (i : Nat) (v : X), g.le h' ∧ look e 7 .mk = .raw (.int .i64 (i : Nat)) ∧ look e 6 .mk = v ∧ OwnB (hn g .mk) h' v (lsb (decS l (ts.take i))) ∧ m + i = ts.length) ts.length ?_ ?_
  · exact ⟨0, _, le_push (le_up (H2.le.refl _) hn1), by simp -dsimp -implicitDefEqProofs only [go_sem, Nat.reduceBEq, Nat.reduceAdd, Nat.reduceLeDiff, Nat.reduceMul, Int.reduceLE, Int.reduceLT, Int.reduceBEq], by simp -dsimp -implicitDefEqProofs only [go_sem, Nat.reduceBEq, Nat.reduceAdd, Nat.reduceLeDiff, Nat.reduceMul, Int.reduceLE, Int.reduceLT, Int.reduceBEq] <;> rfl, Own.new (by rw [hn_up]; exact hn1) rfl, by omega⟩
  · rintro m e h' hks ⟨i, v, lg, e7, e6, ov, hm⟩
    simp -dsimp -implicitDefEqProofs only [go_sem, Nat.reduceBEq, Nat.reduceAdd, Nat.reduceLeDiff, Nat.reduceMul, Int.reduceLE, Int.reduceLT, Int.reduceBEq] at hks
    by_cases h3 : (i : Int) < (ts.length : Int)
    · have h4 : i < ts.length := by omega
      have h5 := hts _ (getD_memI h4)
      repeat (first | rw [kz_o] | rw [kz_r0] | simp -dsimp -implicitDefEqProofs only [go_sem, Nat.reduceBEq, Nat.reduceAdd, Nat.reduceLeDiff, Nat.reduceMul, Int.reduceLE, Int.reduceLT, Int.reduceBEq, hks, e7, e6, h3, h4])
      refine pw_intro (specPiece_ok hr l16 (n := l.length) (Nat.le_refl _) h5.1 h5.2) ?_
      rintro _ n3 hn3 rfl
      have w1 : IntKind.i64.wrap ((i : Int) + 1) = ((i + 1 : Nat) : Int) := by rw [wrap_i64] <;> omega
      have s1 := decS_size hr (ts := ts.take i) fun t ht => hts t (List.mem_of_mem_take ht)
      have s2 := pc_64 hr (n := l.length) (Nat.le_refl _) h5.1 h5.2
      rw [List.length_take] at s1
      repeat (first | rw [kz_o] | rw [kz_r0] | simp -dsimp -implicitDefEqProofs only [go_sem, Nat.reduceBEq, Nat.reduceAdd, Nat.reduceLeDiff, Nat.reduceMul, Int.reduceLE, Int.reduceLT, Int.reduceBEq, hks, e7, e6, h3, h4])
      rw [cv_fromS Go.Ai.ty_cl9 Go.Ai.ty_cl22 Go.Ai.ty_el22 Go.Ai.ty_cl5 (by omega)]
      repeat (first | rw [kz_o] | rw [kz_r0] | simp -dsimp -implicitDefEqProofs only [go_sem, Nat.reduceBEq, Nat.reduceAdd, Nat.reduceLeDiff, Nat.reduceMul, Int.reduceLE, Int.reduceLT, Int.reduceBEq, hks, e7, e6])
      have hle := lg.1
      have hg2 : (g.le ((h'.up n3).push ⟨1, (lsb (pc l l.length (ts.getD i default))).map cB⟩)) := le_push (le_up lg hn3)
      have op : OwnB (hn g .mk) ((h'.up n3).push ⟨1, (lsb (pc l l.length (ts.getD i default))).map cB⟩) (.raw (.slice (some ⟨hn (h'.up n3) .mk, 0, none⟩) (pc l l.length (ts.getD i default)).size (pc l l.length (ts.getD i default)).size)) (lsb (pc l l.length (ts.getD i default))) := Own.new (by rw [hn_up]; omega) (by simp; rfl)
      have ov2 : OwnB (hn g .mk) ((h'.up n3).push ⟨1, (lsb (pc l l.length (ts.getD i default))).map cB⟩) v (lsb (decS l (ts.take i))) := Own.keep ov (le_push (le_up (H2.le.refl _) hn3))
      refine append_own (P := Tryz.prog) (z := 0) (N := hn g .mk) Go.Ai.ty_el22 Go.Ai.ty_zr5 rfl Go.Ai.ty_cl22 ov2 (by rw [hn_push, hn_up]; omega) (src_own op) (by simp) allok_cB (by have : Go.Ai.most = 1099511627776 := rfl; have : (lsb (decS l (ts.take i))).length = (decS l (ts.take i)).size := rfl; have : (lsb (pc l l.length (ts.getD i default))).length = (pc l l.length (ts.getD i default)).size := rfl; omega) ?_
      intro v4 g4 o4 nn4 le4 on4
      repeat (first | rw [kz_o] | rw [kz_r0] | simp -dsimp -implicitDefEqProofs only [go_sem, Nat.reduceBEq, Nat.reduceAdd, Nat.reduceLeDiff, Nat.reduceMul, Int.reduceLE, Int.reduceLT, Int.reduceBEq, hks, e7, e6, w1])
      refine nx_keep (m - 1) (by omega) (by simp -dsimp -implicitDefEqProofs only [go_sem, Nat.reduceBEq, Nat.reduceAdd, Nat.reduceLeDiff, Nat.reduceMul, Int.reduceLE, Int.reduceLT, Int.reduceBEq, hks]) ⟨i + 1, v4, le4 g (Nat.le_refl _) hg2, by simp -dsimp -implicitDefEqProofs only [go_sem, Nat.reduceBEq, Nat.reduceAdd, Nat.reduceLeDiff, Nat.reduceMul, Int.reduceLE, Int.reduceLT, Int.reduceBEq, w1], by simp -dsimp -implicitDefEqProofs only [go_sem, Nat.reduceBEq, Nat.reduceAdd, Nat.reduceLeDiff, Nat.reduceMul, Int.reduceLE, Int.reduceLT, Int.reduceBEq], ?_, by omega⟩
      have e : lsb (decS l (ts.take (i + 1))) = lsb (decS l (ts.take i)) ++ lsb (pc l l.length (ts.getD i default)) := by
        rw [decS_take h4]; simp [lsb, ByteArray.data_append]
      unfold OwnB
      rw [e, List.map_append, List.length_append]
      exact o4
    · obtain rfl : i = ts.length := by omega
      rw [List.take_length] at ov
      repeat (first | rw [kz_o] | rw [kz_r0] | simp -dsimp -implicitDefEqProofs only [go_sem, Nat.reduceBEq, Nat.reduceAdd, Nat.reduceLeDiff, Nat.reduceMul, Int.reduceLE, Int.reduceLT, Int.reduceBEq, hks, e7, e6, h3])
      rw [cv_ownB Go.Ai.ty_cl22 Go.Ai.ty_cl9 (by simp -dsimp -implicitDefEqProofs only [go_sem, Nat.reduceBEq, Nat.reduceAdd, Nat.reduceLeDiff, Nat.reduceMul, Int.reduceLE, Int.reduceLT, Int.reduceBEq]) (by simp -dsimp -implicitDefEqProofs only [go_sem, Nat.reduceBEq, Nat.reduceAdd, Nat.reduceLeDiff, Nat.reduceMul, Int.reduceLE, Int.reduceLT, Int.reduceBEq]) (by simp -dsimp -implicitDefEqProofs only [go_sem, Nat.reduceBEq, Nat.reduceAdd, Nat.reduceLeDiff, Nat.reduceMul, Int.reduceLE, Int.reduceLT, Int.reduceBEq]) ov]
      repeat (first | rw [kz_o] | rw [kz_r0] | simp -dsimp -implicitDefEqProofs only [go_sem, Nat.reduceBEq, Nat.reduceAdd, Nat.reduceLeDiff, Nat.reduceMul, Int.reduceLE, Int.reduceLT, Int.reduceBEq])
      exact ⟨lg, .inr ⟨[_, _], rfl⟩, by rw [decR, htk]; rfl⟩
end Go.Bi
end
section
set_option linter.unusedSimpArgs false
set_option linter.unusedVariables false
namespace Go.Bi
open Go.Proofs
def occ (t s : ByteArray) (i : Nat) : Bool := Lib.occAt (lsb t) (lsb s) i
def ixB (t s : ByteArray) : Int := Lib.index t.data.toList s.data.toList
def FindP (t : ByteArray) (ss : List ByteArray) (r : Int) : Prop :=
  (r = -1 ∧ ∀ i, ∀ s ∈ ss, 0 < s.size → occ t s i = false) ∨ ∃ i : Nat, r = (i : Int) ∧ (∃ s ∈ ss, 0 < s.size ∧ occ t s i = true) ∧ ∀ j, j < i → ∀ s ∈ ss, 0 < s.size → occ t s j = false
theorem FindP.one {t : ByteArray} {ss : List ByteArray} {r r' : Int} (h : FindP t ss r) (h' : FindP t ss r') : r = r' := by
  rcases h with ⟨rfl, h⟩ | ⟨i, rfl, ⟨s, hs, h0, h1⟩, h⟩
  · rcases h' with ⟨rfl, h'⟩ | ⟨i, rfl, ⟨s, hs, h0, h1⟩, h'⟩
    · rfl
    · rw [h i s hs h0] at h1; cases h1
  · rcases h' with ⟨rfl, h'⟩ | ⟨i', rfl, ⟨s', hs', h0', h1'⟩, h'⟩
    · rw [h' i s hs h0] at h1; cases h1
    · by_cases hlt : i < i'
      · rw [h' i hlt s hs h0] at h1; cases h1
      · by_cases hgt : i' < i
        · rw [h i' hgt s' hs' h0'] at h1'; cases h1'
        · congr 1; omega
theorem occ_room {t s : ByteArray} {i : Nat} (h0 : 0 < s.size) (h : occ t s i = true) : i + s.size ≤ t.size := by
  have h1 : lsb s <+: (lsb t).drop i := List.isPrefixOf_iff_prefix.1 h
  have h2 := h1.length_le
  rw [List.length_drop] at h2
  have e1 : (lsb s).length = s.size := rfl
  have e2 : (lsb t).length = t.size := rfl
  omega
theorem lsb_extract {s : ByteArray} {a b : Nat} : lsb (s.extract a b) = ((lsb s).drop a).take (b - a) := by
  simp only [lsb, ByteArray.data_extract, Array.toList_extract, List.extract]
theorem occ_eq {t s : ByteArray} {i : Nat} (h : i + s.size ≤ t.size) : occ t s i = ((t.extract i (i + s.size)).toList == s.toList) := by
  have e0 : ∀ {x : ByteArray}, x.toList = lsb x := fun {x} => ByteArray.toList_eq x
  have e1 : lsb (t.extract i (i + s.size)) = ((lsb t).drop i).take s.size := by
    rw [lsb_extract]; congr 1; omega
  rw [e0, e0, e1, Bool.eq_iff_iff, beq_iff_eq]
  show (lsb s).isPrefixOf ((lsb t).drop i) = true ↔ _
  rw [List.isPrefixOf_iff_prefix, List.prefix_iff_eq_take]
  exact eq_comm
def stepF (t : ByteArray) (r : Int) (s : ByteArray) : Int := if 0 < s.size ∧ 0 ≤ ixB t s ∧ (r < 0 ∨ ixB t s < r) then ixB t s else r
def firstP (t : ByteArray) (ss : List ByteArray) : Int := ss.foldl (stepF t) (-1)
theorem firstP_take {t : ByteArray} {ss : List ByteArray} {k : Nat} (hk : k < ss.length) : firstP t (ss.take (k + 1)) = stepF t (firstP t (ss.take k)) (ss.getD k default) := by
  unfold firstP
  rw [List.take_succ_eq_append_getElem hk, List.foldl_append, List.getD_eq_getElem?_getD, List.getElem?_eq_getElem hk]; rfl
theorem find_step {t s : ByteArray} {ss : List ByteArray} {r : Int} (h : FindP t ss r) : FindP t (ss ++ [s]) (stepF t r s) := by
  have all : ∀ {i : Nat}, (∀ u ∈ ss, 0 < u.size → occ t u i = false) → (0 < s.size → occ t s i = false) → ∀ u ∈ ss ++ [s], 0 < u.size → occ t u i = false := fun h1 h2 u hu h0 => by
    rcases List.mem_append.1 hu with hu | hu
    · exact h1 u hu h0
    · simp at hu; subst hu; exact h2 h0
  by_cases h0 : 0 < s.size
  · have far : ∀ j, (lsb t).length < j → occ t s j = false := fun j hj => by
      cases ho : occ t s j
      · rfl
      · have := occ_room h0 ho
        have e : (lsb t).length = t.size := rfl
        omega
    rcases Lib.index_spec (lsb t) (lsb s) with ⟨hi, hno⟩ | ⟨i, hi, hle, ho, hno⟩
    · have hn : ∀ j, occ t s j = false := fun j => by
        by_cases hj : j ≤ (lsb t).length
        · exact hno j hj
        · exact far j (by omega)
      have e : stepF t r s = r := by
        unfold stepF
        rw [if_neg]
        intro hh
        have : ixB t s = -1 := hi
        omega
      rw [e]
      rcases h with ⟨rfl, h⟩ | ⟨i, rfl, ⟨u, hu, hu0, hu1⟩, h⟩
      · exact .inl ⟨rfl, fun i => all (h i) fun _ => hn i⟩
      · exact .inr ⟨i, rfl, ⟨u, List.mem_append_left _ hu, hu0, hu1⟩, fun j hj => all (h j hj) fun _ => hn j⟩
    · have hix : ixB t s = (i : Int) := hi
      have ho' : occ t s i = true := ho
      have hno' : ∀ j, j < i → occ t s j = false := fun j hj => hno j hj
      unfold stepF
      rw [hix]
      rcases h with ⟨rfl, h⟩ | ⟨k, rfl, ⟨u, hu, hu0, hu1⟩, h⟩
      · rw [if_pos ⟨h0, by omega, .inl (by omega)⟩]
        exact .inr ⟨i, rfl, ⟨s, by simp, h0, ho'⟩, fun j hj => all (h j) fun _ => hno' j hj⟩
      · by_cases hik : i < k
        · rw [if_pos ⟨h0, by omega, .inr (by omega)⟩]
          exact .inr ⟨i, rfl, ⟨s, by simp, h0, ho'⟩, fun j hj => all (h j (by omega)) fun _ => hno' j hj⟩
        · rw [if_neg (by omega)]
          exact .inr ⟨k, rfl, ⟨u, List.mem_append_left _ hu, hu0, hu1⟩, fun j hj => all (h j hj) fun _ => hno' j (by omega)⟩
  · have e : stepF t r s = r := by
      unfold stepF
      rw [if_neg (fun hh => h0 hh.1)]
    rw [e]
    rcases h with ⟨rfl, h⟩ | ⟨i, rfl, ⟨u, hu, hu0, hu1⟩, h⟩
    · exact .inl ⟨rfl, fun i => all (h i) fun h => absurd h h0⟩
    · exact .inr ⟨i, rfl, ⟨u, List.mem_append_left _ hu, hu0, hu1⟩, fun j hj => all (h j hj) fun h => absurd h h0⟩
theorem find_first {t : ByteArray} {ss : List ByteArray} : FindP t ss (firstP t ss) := by
  have key : ∀ k, k ≤ ss.length → FindP t (ss.take k) (firstP t (ss.take k)) := by
    intro k
    induction k with
    | zero => intro _; exact .inl ⟨rfl, fun i s hs => by simp at hs⟩
    | succ k ih =>
      intro hk
      rw [firstP_take (show k < ss.length by omega), List.take_succ_eq_append_getElem (show k < ss.length by omega)]
      have := find_step (s := ss[k]) (ih (by omega))
      rw [List.getD_eq_getElem?_getD, List.getElem?_eq_getElem (show k < ss.length by omega)]
      exact this
  have := key ss.length (Nat.le_refl _)
  rwa [List.take_length] at this
theorem first_rng {t : ByteArray} {ss : List ByteArray} : firstP t ss = -1 ∨ (0 ≤ firstP t ss ∧ firstP t ss ≤ t.size) := by
  rcases find_first (t := t) (ss := ss) with ⟨h, _⟩ | ⟨i, h, ⟨s, _, h0, h1⟩, _⟩
  · exact .inl h
  · have := occ_room h0 h1
    right; omega
def decT (l : List LMerge) (ts : List Int) : ByteArray := if tokB l ts = true then decS l ts else ⟨#[]⟩
theorem decR_eq {l : List LMerge} {ts : List Int} : decR l ts = .tp [.raw (.string (decT l ts)), .raw (.bool (tokB l ts))] := by
  unfold decR decT; cases tokB l ts <;> rfl
theorem decT_size {l : List LMerge} {ts : List Int} : (decT l ts).size ≤ 12800 := by
  unfold decT
  split
  · rename_i h
    obtain ⟨⟨l16, hr⟩, h200, hts⟩ := tok_facts h
    have := decS_size hr hts
    omega
  · show 0 ≤ _; omega
def stopT (t : ByteArray) (ss : List ByteArray) : ByteArray := if firstP t ss < 0 then t else t.extract 0 (firstP t ss).toNat
def stopR (t : ByteArray) (ss : List ByteArray) : X := .tp [.raw (.string (stopT t ss)), .raw (.bool (!decide (firstP t ss < 0)))]
end Go.Bi
end
section
set_option linter.unusedSimpArgs false
set_option linter.unusedVariables false
set_option maxRecDepth 20000
namespace Go.Proofs
open Go.Shelf
def Tryz.lays143_ren : Go.Shelf.Ren := ⟨fun | 143 => 185 | 219 => 228 | 217 => 252 | 225 => 253 | 224 => 254 | 267 => 255 | 266 => 270 | 314 => 271 | n => n, fun | 9 => 9 | 3 => 3 | 4 => 4 | 5 => 5 | 46 => 246 | 146 => 275 | 51 => 274 | n => n, fun | 1 => 0 | n => n⟩
theorem Tryz.lays143 : Go.Proofs.LaysM.n143 Tryz.prog Tryz.lays143_ren := {
  mixed := by kernel_rfl
  f143 := Tryz.func185.trans (congrArg some (by kernel_rfl))
  f217 := Tryz.func252.trans (congrArg some (by kernel_rfl))
  f219 := Tryz.func228.trans (congrArg some (by kernel_rfl))
  f224 := Tryz.func254.trans (congrArg some (by kernel_rfl))
  f225 := Tryz.func253.trans (congrArg some (by kernel_rfl))
  f266 := Tryz.func270.trans (congrArg some (by kernel_rfl))
  f267 := Tryz.func255.trans (congrArg some (by kernel_rfl))
  f314 := Tryz.func271.trans (congrArg some (by kernel_rfl))
  t3 := Tryz.underlying3
  a3 := Tryz.isAgg3
  z3 := Tryz.sizeOf3
  v3 := Tryz.zeroValue3
  t4 := Tryz.underlying4
  a4 := Tryz.isAgg4
  z4 := Tryz.sizeOf4
  v4 := Tryz.zeroValue4
  t5 := Tryz.underlying5
  a5 := Tryz.isAgg5
  z5 := Tryz.sizeOf5
  v5 := Tryz.zeroValue5
  t9 := Tryz.underlying9
  a9 := Tryz.isAgg9
  z9 := Tryz.sizeOf9
  v9 := Tryz.zeroValue9
  t46 := Tryz.underlying246
  a46 := Tryz.isAgg246
  z46 := Tryz.sizeOf246
  v46 := Tryz.zeroValue246
  t51 := Tryz.underlying274
  a51 := Tryz.isAgg274
  z51 := Tryz.sizeOf274
  v51 := Tryz.zeroValue274
  t146 := Tryz.underlying275
  a146 := Tryz.isAgg275
  z146 := Tryz.sizeOf275
  v146 := Tryz.zeroValue275
  g1 := by kernel_rfl
  i3 := by kernel_rfl
  i4 := by kernel_rfl
  i5 := by kernel_rfl
  i9 := by kernel_rfl
  i46 := by kernel_rfl
  i51 := by kernel_rfl
  i146 := by kernel_rfl
  m1 := by kernel_rfl
  s1_3 := fun w h => Go.Proofs.cell_of_shapedOpen_int (zero := #[.int .i64 0]) (t := 3) h (of_decide_eq_true (by kernel_rfl)) (by kernel_rfl) rfl (by kernel_rfl) (by kernel_rfl) Tryz.underlying3 }
end Go.Proofs
namespace Go.Bi
open Go.Proofs
variable {W0 : World} {P : Program}
def Lng (W0 : World) : Prop := ∃ m, W0.cell? ⟨0, 0, none⟩ = some (.int .i64 m)
theorem lng_of {W : World} (h : W.ShapedOpen Tryz.prog) : Lng W := Tryz.lays143.s1_3 W h
theorem index_ok {s t : ByteArray} {g : H2} (hW : Lng W0) (hs : s.size < 4294967281) : WC2 Tryz.prog W0 185 [.raw (.string s), .raw (.string t)] g (fun x g' => x = .raw (.int .i64 (Lib.index s.data.toList t.data.toList)) ∧ g' = g) := by
  intro h sg _
  refine ⟨by kernel_rfl, fun ι w args' sim ha => ?_⟩
  obtain ⟨m, hm⟩ := hW
  obtain ⟨args'⟩ := args'
  have ha' : args' = [.string s, .string t] := by
    cases ha with
    | cons a b => cases b with
      | cons c d => cases d; 
                    have a' : _ = Value.string s := a
                    have c' : _ = Value.string t := c
                    rw [a', c']
  subst ha'
  have hm' : w.cell? ⟨0, 0, none⟩ = some (.int .i64 m) := by
    rw [← hm]
    unfold World.cell?
    have hlt : 0 < W0.heap.size := by
      by_cases hx : 0 < W0.heap.size
      · exact hx
      · exfalso
        unfold World.cell? at hm
        rw [Array.getElem?_eq_none (by omega)] at hm
        cases hm
    rw [(sim.base _ hlt).2.1]
  refine (Any.strings_Index { Tryz.lays143 with } s t m w hs hm').mono ?_
  rintro e w' ⟨rfl, rfl⟩
  exact ⟨.int .i64 (Lib.index s.data.toList t.data.toList), _, h, ι, rfl, Go.Ai.Ren.le_refl _, sim, rfl, .raw (.int .i64 (Lib.index s.data.toList t.data.toList)), g, rfl, sg, Ext.refl, .raw, rfl, rfl⟩
end Go.Bi
end
