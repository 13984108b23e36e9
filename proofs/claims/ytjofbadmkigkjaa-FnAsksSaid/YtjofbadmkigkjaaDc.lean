/- Walks of both AskTexts. -/
import Derived.Test.YtjofbadmkigkjaaDb
set_option linter.unusedSimpArgs false
set_option linter.unusedVariables false
set_option maxRecDepth 20000
namespace Go.Bi
open Go.Proofs
open Go.Ai (wrap_i64 wrap_u64 wrap_u8 Heap)
variable {W0 : World} {P : Program}
def emptyT (s : ByteArray) : Bool := s.toList == (ByteArray.mk #[]).toList
theorem emptyT_def {s : ByteArray} : emptyT s = (s.toList == (ByteArray.mk #[]).toList) := rfl
def noCfg (c : LConfig) : Bool := decide (c.top = 0) && (decide (c.seed = 0) && (decide (c.new = 0) && decide ((c.stops.length : Int) = 0)))
def bareB (c : LConfig) : Bool := decide (c.top = 0) && decide ((c.stops.length : Int) = 0)
def askOkB (a : LAsk) : Bool :=
  if a.op = 1 then cfgOk a.config && (decide ((a.text.size : Int) ≤ 200) && (decide (a.pos = 0) && decide ((a.picks.length : Int) = 0)))
  else if a.op = 2 then inI a.pos 0 255 && (inI a.config.seed 0 1000000000 && (inI a.config.new 1 24 && (decide (a.config.top = 0) && (decide ((a.config.stops.length : Int) = 0) && (emptyT a.text && decide ((a.picks.length : Int) = 0))))))
  else if a.op = 3 ∨ a.op = 4 ∨ a.op = 6 then inI a.pos 0 255 && (emptyT a.text && (noCfg a.config && decide ((a.picks.length : Int) = 0)))
  else if a.op = 5 then decide ((a.picks.length : Int) ≤ 20) && (allI a.picks 0 255 && (emptyT a.text && (noCfg a.config && decide (a.pos = 0))))
  else false
theorem noConfig_ok {F : Nat → Adr} {c : LConfig} {h : H2} : PW Try.prog W0 91 [.st (xConfig F c)] h (fun r => r = .raw (.bool (noCfg c))) := by
  refine PW.scalar ?_
  refine start (P := Try.prog) [[0], [1]] (by kernel_rfl) Try.func91 rfl (by decide) (by decide +kernel) (rs := [.tmp 2]) rfl rfl (Nat.le_of_ble_eq_true rfl) ?_
  intro wf
  repeat (first | rw [kz_o] | rw [kz_r0] | simp -dsimp -implicitDefEqProofs only [go_sem, Nat.reduceBEq, Nat.reduceAdd, Nat.reduceLeDiff, Nat.reduceMul, Int.reduceLE, Int.reduceLT, Int.reduceBEq])
  refine gz_dec (fun h1 => ?_) (fun h1 => ?_)
  rotate_left
  · repeat (first | rw [kz_o] | rw [kz_r0] | simp -dsimp -implicitDefEqProofs only [go_sem, Nat.reduceBEq, Nat.reduceAdd, Nat.reduceLeDiff, Nat.reduceMul, Int.reduceLE, Int.reduceLT, Int.reduceBEq, h1])
    exact ⟨by repeat (first | exact H2.le.refl _ | apply le_push | refine le_up ?_ (by assumption) | refine le_set ?_ (by first | omega | (simp only [hn_push, hn_up]; omega))), ⟨_, rfl⟩, by simp only [noCfg, h1, decide_true, decide_false, Bool.true_and, Bool.false_and, Bool.and_false]⟩
  repeat (first | rw [kz_o] | rw [kz_r0] | simp -dsimp -implicitDefEqProofs only [go_sem, Nat.reduceBEq, Nat.reduceAdd, Nat.reduceLeDiff, Nat.reduceMul, Int.reduceLE, Int.reduceLT, Int.reduceBEq, h1])
  refine gz_dec (fun h2 => ?_) (fun h2 => ?_)
  rotate_left
  · repeat (first | rw [kz_o] | rw [kz_r0] | simp -dsimp -implicitDefEqProofs only [go_sem, Nat.reduceBEq, Nat.reduceAdd, Nat.reduceLeDiff, Nat.reduceMul, Int.reduceLE, Int.reduceLT, Int.reduceBEq, h1, h2])
    exact ⟨by repeat (first | exact H2.le.refl _ | apply le_push | refine le_up ?_ (by assumption) | refine le_set ?_ (by first | omega | (simp only [hn_push, hn_up]; omega))), ⟨_, rfl⟩, by simp only [noCfg, h1, h2, decide_true, decide_false, Bool.true_and, Bool.false_and, Bool.and_false]⟩
  repeat (first | rw [kz_o] | rw [kz_r0] | simp -dsimp -implicitDefEqProofs only [go_sem, Nat.reduceBEq, Nat.reduceAdd, Nat.reduceLeDiff, Nat.reduceMul, Int.reduceLE, Int.reduceLT, Int.reduceBEq, h1, h2])
  refine gz_dec (fun h3 => ?_) (fun h3 => ?_)
  rotate_left
  · repeat (first | rw [kz_o] | rw [kz_r0] | simp -dsimp -implicitDefEqProofs only [go_sem, Nat.reduceBEq, Nat.reduceAdd, Nat.reduceLeDiff, Nat.reduceMul, Int.reduceLE, Int.reduceLT, Int.reduceBEq, h1, h2, h3])
    exact ⟨by repeat (first | exact H2.le.refl _ | apply le_push | refine le_up ?_ (by assumption) | refine le_set ?_ (by first | omega | (simp only [hn_push, hn_up]; omega))), ⟨_, rfl⟩, by simp only [noCfg, h1, h2, h3, decide_true, decide_false, Bool.true_and, Bool.false_and, Bool.and_false]⟩
  repeat (first | rw [kz_o] | rw [kz_r0] | simp -dsimp -implicitDefEqProofs only [go_sem, Nat.reduceBEq, Nat.reduceAdd, Nat.reduceLeDiff, Nat.reduceMul, Int.reduceLE, Int.reduceLT, Int.reduceBEq, h1, h2, h3])
  exact ⟨by repeat (first | exact H2.le.refl _ | apply le_push | refine le_up ?_ (by assumption) | refine le_set ?_ (by first | omega | (simp only [hn_push, hn_up]; omega))), ⟨_, rfl⟩, by simp only [noCfg, h1, h2, h3, decide_true, decide_false, Bool.true_and, Bool.false_and, Bool.and_false]⟩
theorem l24Bare_ok {F : Nat → Adr} {c : LConfig} {h : H2} : PW Try.prog W0 42 [.st (xConfig F c)] h (fun r => r = .raw (.bool (bareB c))) := by
  refine PW.scalar ?_
  refine start (P := Try.prog) [[0], [1]] (by kernel_rfl) Try.func42 rfl (by decide) (by decide +kernel) (rs := [.tmp 2]) rfl rfl (Nat.le_of_ble_eq_true rfl) ?_
  intro wf
  repeat (first | rw [kz_o] | rw [kz_r0] | simp -dsimp -implicitDefEqProofs only [go_sem, Nat.reduceBEq, Nat.reduceAdd, Nat.reduceLeDiff, Nat.reduceMul, Int.reduceLE, Int.reduceLT, Int.reduceBEq])
  refine gz_dec (fun h4 => ?_) (fun h4 => ?_)
  rotate_left
  · repeat (first | rw [kz_o] | rw [kz_r0] | simp -dsimp -implicitDefEqProofs only [go_sem, Nat.reduceBEq, Nat.reduceAdd, Nat.reduceLeDiff, Nat.reduceMul, Int.reduceLE, Int.reduceLT, Int.reduceBEq, h4])
    exact ⟨by repeat (first | exact H2.le.refl _ | apply le_push | refine le_up ?_ (by assumption) | refine le_set ?_ (by first | omega | (simp only [hn_push, hn_up]; omega))), ⟨_, rfl⟩, by simp only [bareB, h4, decide_true, decide_false, Bool.true_and, Bool.false_and, Bool.and_false]⟩
  repeat (first | rw [kz_o] | rw [kz_r0] | simp -dsimp -implicitDefEqProofs only [go_sem, Nat.reduceBEq, Nat.reduceAdd, Nat.reduceLeDiff, Nat.reduceMul, Int.reduceLE, Int.reduceLT, Int.reduceBEq, h4])
  exact ⟨by repeat (first | exact H2.le.refl _ | apply le_push | refine le_up ?_ (by assumption) | refine le_set ?_ (by first | omega | (simp only [hn_push, hn_up]; omega))), ⟨_, rfl⟩, by simp only [bareB, h4, decide_true, decide_false, Bool.true_and, Bool.false_and, Bool.and_false]⟩
theorem isByte_ok {n : Int} {h : H2} : WC2 Try.prog W0 89 [.raw (.int .i64 n)] h (fun v h' => v = .raw (.bool (inI n 0 255)) ∧ h' = h) := by
  refine start (P := Try.prog) [[0], [0]] (by kernel_rfl) Try.func89 rfl (by decide) (by decide +kernel) (rs := [.tmp 2]) rfl rfl (Nat.le_of_ble_eq_true rfl) ?_
  intro wf
  repeat (first | rw [kz_o] | rw [kz_r0] | simp -dsimp -implicitDefEqProofs only [go_sem, Nat.reduceBEq, Nat.reduceAdd, Nat.reduceLeDiff, Nat.reduceMul, Int.reduceLE, Int.reduceLT, Int.reduceBEq])
  refine wz_intro in_ok ?_
  rintro _ h' ⟨rfl, rfl⟩
  repeat (first | rw [kz_o] | rw [kz_r0] | simp -dsimp -implicitDefEqProofs only [go_sem, Nat.reduceBEq, Nat.reduceAdd, Nat.reduceLeDiff, Nat.reduceMul, Int.reduceLE, Int.reduceLT, Int.reduceBEq])
  exact ⟨rfl, rfl⟩
set_option maxHeartbeats 4000000 in
theorem askOk_ok {F : Nat → Adr} {c : LAsk} {h : H2} (hf : fitAsk c) : PW Try.prog W0 32 [.st (xAsk F c)] h (fun r => r = .raw (.bool (askOkB c))) := by
  obtain ⟨hf1, ⟨hf2, _⟩, hf3⟩ := hf
  refine PW.scalar ?_
  refine start (P := Try.prog) [[0], [1], [1, 3], [1, 3, 7], [1, 3], [1, 3, 7], [1, 3], [1, 3, 7], [1, 3, 7], [1, 3, 7], [1, 3], [1, 3, 7], [1, 3], []] (by kernel_rfl) Try.func32 rfl (by decide) (by decide +kernel) (rs := [.tmp 2]) rfl rfl (Nat.le_of_ble_eq_true rfl) ?_
  intro wf
  repeat (first | rw [kz_o] | rw [kz_r0] | simp -dsimp -implicitDefEqProofs only [go_sem, Nat.reduceBEq, Nat.reduceAdd, Nat.reduceLeDiff, Nat.reduceMul, Int.reduceLE, Int.reduceLT, Int.reduceBEq])
  refine gz_dec (fun p1 => ?_) (fun p1 => ?_)
  · repeat (first | rw [kz_o] | rw [kz_r0] | simp -dsimp -implicitDefEqProofs only [go_sem, Nat.reduceBEq, Nat.reduceAdd, Nat.reduceLeDiff, Nat.reduceMul, Int.reduceLE, Int.reduceLT, Int.reduceBEq, p1])
    refine pw_intro (implConfigOk_ok (F := fun j => F (j + 3)) (c := c.config) hf2) ?_
    rintro _ n6 hn6 rfl
    cases h5 : cfgOk c.config
    · repeat (first | rw [kz_o] | rw [kz_r0] | simp -dsimp -implicitDefEqProofs only [go_sem, Nat.reduceBEq, Nat.reduceAdd, Nat.reduceLeDiff, Nat.reduceMul, Int.reduceLE, Int.reduceLT, Int.reduceBEq, p1])
      exact ⟨by repeat (first | exact H2.le.refl _ | apply le_push | refine le_up ?_ (by assumption) | refine le_set ?_ (by first | omega | (simp only [hn_push, hn_up]; omega))), ⟨_, rfl⟩, by simp only [askOkB, emptyT_def, p1, h5, ↓reduceIte, Int.reduceEq, decide_true, decide_false, Bool.true_and, Bool.false_and, Bool.and_false, Bool.and_true, true_or, or_true, or_self, false_or, or_false]⟩
    repeat (first | rw [kz_o] | rw [kz_r0] | simp -dsimp -implicitDefEqProofs only [go_sem, Nat.reduceBEq, Nat.reduceAdd, Nat.reduceLeDiff, Nat.reduceMul, Int.reduceLE, Int.reduceLT, Int.reduceBEq, p1])
    refine gz_dec (fun h7 => ?_) (fun h7 => ?_)
    rotate_left
    · repeat (first | rw [kz_o] | rw [kz_r0] | simp -dsimp -implicitDefEqProofs only [go_sem, Nat.reduceBEq, Nat.reduceAdd, Nat.reduceLeDiff, Nat.reduceMul, Int.reduceLE, Int.reduceLT, Int.reduceBEq, p1, h5, h7])
      exact ⟨by repeat (first | exact H2.le.refl _ | apply le_push | refine le_up ?_ (by assumption) | refine le_set ?_ (by first | omega | (simp only [hn_push, hn_up]; omega))), ⟨_, rfl⟩, by simp only [askOkB, emptyT_def, p1, h5, h7, ↓reduceIte, Int.reduceEq, decide_true, decide_false, Bool.true_and, Bool.false_and, Bool.and_false, Bool.and_true, true_or, or_true, or_self, false_or, or_false]⟩
    repeat (first | rw [kz_o] | rw [kz_r0] | simp -dsimp -implicitDefEqProofs only [go_sem, Nat.reduceBEq, Nat.reduceAdd, Nat.reduceLeDiff, Nat.reduceMul, Int.reduceLE, Int.reduceLT, Int.reduceBEq, p1, h5, h7])
    refine gz_dec (fun h8 => ?_) (fun h8 => ?_)
    rotate_left
    · repeat (first | rw [kz_o] | rw [kz_r0] | simp -dsimp -implicitDefEqProofs only [go_sem, Nat.reduceBEq, Nat.reduceAdd, Nat.reduceLeDiff, Nat.reduceMul, Int.reduceLE, Int.reduceLT, Int.reduceBEq, p1, h5, h7, h8])
      exact ⟨by repeat (first | exact H2.le.refl _ | apply le_push | refine le_up ?_ (by assumption) | refine le_set ?_ (by first | omega | (simp only [hn_push, hn_up]; omega))), ⟨_, rfl⟩, by simp only [askOkB, emptyT_def, p1, h5, h7, h8, ↓reduceIte, Int.reduceEq, decide_true, decide_false, Bool.true_and, Bool.false_and, Bool.and_false, Bool.and_true, true_or, or_true, or_self, false_or, or_false]⟩
    repeat (first | rw [kz_o] | rw [kz_r0] | simp -dsimp -implicitDefEqProofs only [go_sem, Nat.reduceBEq, Nat.reduceAdd, Nat.reduceLeDiff, Nat.reduceMul, Int.reduceLE, Int.reduceLT, Int.reduceBEq, p1, h5, h7, h8])
    exact ⟨by repeat (first | exact H2.le.refl _ | apply le_push | refine le_up ?_ (by assumption) | refine le_set ?_ (by first | omega | (simp only [hn_push, hn_up]; omega))), ⟨_, rfl⟩, by simp only [askOkB, emptyT_def, p1, h5, h7, h8, ↓reduceIte, Int.reduceEq, decide_true, decide_false, Bool.true_and, Bool.false_and, Bool.and_false, Bool.and_true, true_or, or_true, or_self, false_or, or_false]⟩
  repeat (first | rw [kz_o] | rw [kz_r0] | simp -dsimp -implicitDefEqProofs only [go_sem, Nat.reduceBEq, Nat.reduceAdd, Nat.reduceLeDiff, Nat.reduceMul, Int.reduceLE, Int.reduceLT, Int.reduceBEq, p1])
  refine gz_dec (fun p2 => ?_) (fun p2 => ?_)
  · repeat (first | rw [kz_o] | rw [kz_r0] | simp -dsimp -implicitDefEqProofs only [go_sem, Nat.reduceBEq, Nat.reduceAdd, Nat.reduceLeDiff, Nat.reduceMul, Int.reduceLE, Int.reduceLT, Int.reduceBEq, p1, p2])
    refine wz_intro isByte_ok ?_
    rintro _ h' ⟨rfl, rfl⟩
    cases h9 : inI c.pos 0 255
    · repeat (first | rw [kz_o] | rw [kz_r0] | simp -dsimp -implicitDefEqProofs only [go_sem, Nat.reduceBEq, Nat.reduceAdd, Nat.reduceLeDiff, Nat.reduceMul, Int.reduceLE, Int.reduceLT, Int.reduceBEq, p1, p2])
      exact ⟨by repeat (first | exact H2.le.refl _ | apply le_push | refine le_up ?_ (by assumption) | refine le_set ?_ (by first | omega | (simp only [hn_push, hn_up]; omega))), ⟨_, rfl⟩, by simp only [askOkB, emptyT_def, p1, p2, h9, ↓reduceIte, Int.reduceEq, decide_true, decide_false, Bool.true_and, Bool.false_and, Bool.and_false, Bool.and_true, true_or, or_true, or_self, false_or, or_false]⟩
    repeat (first | rw [kz_o] | rw [kz_r0] | simp -dsimp -implicitDefEqProofs only [go_sem, Nat.reduceBEq, Nat.reduceAdd, Nat.reduceLeDiff, Nat.reduceMul, Int.reduceLE, Int.reduceLT, Int.reduceBEq, p1, p2])
    refine wz_intro in_ok ?_
    rintro _ h' ⟨rfl, rfl⟩
    cases h10 : inI c.config.seed 0 1000000000
    · repeat (first | rw [kz_o] | rw [kz_r0] | simp -dsimp -implicitDefEqProofs only [go_sem, Nat.reduceBEq, Nat.reduceAdd, Nat.reduceLeDiff, Nat.reduceMul, Int.reduceLE, Int.reduceLT, Int.reduceBEq, p1, p2, h9])
      exact ⟨by repeat (first | exact H2.le.refl _ | apply le_push | refine le_up ?_ (by assumption) | refine le_set ?_ (by first | omega | (simp only [hn_push, hn_up]; omega))), ⟨_, rfl⟩, by simp only [askOkB, emptyT_def, p1, p2, h9, h10, ↓reduceIte, Int.reduceEq, decide_true, decide_false, Bool.true_and, Bool.false_and, Bool.and_false, Bool.and_true, true_or, or_true, or_self, false_or, or_false]⟩
    repeat (first | rw [kz_o] | rw [kz_r0] | simp -dsimp -implicitDefEqProofs only [go_sem, Nat.reduceBEq, Nat.reduceAdd, Nat.reduceLeDiff, Nat.reduceMul, Int.reduceLE, Int.reduceLT, Int.reduceBEq, p1, p2, h9])
    refine wz_intro in_ok ?_
    rintro _ h' ⟨rfl, rfl⟩
    cases h11 : inI c.config.new 1 24
    · repeat (first | rw [kz_o] | rw [kz_r0] | simp -dsimp -implicitDefEqProofs only [go_sem, Nat.reduceBEq, Nat.reduceAdd, Nat.reduceLeDiff, Nat.reduceMul, Int.reduceLE, Int.reduceLT, Int.reduceBEq, p1, p2, h9, h10])
      exact ⟨by repeat (first | exact H2.le.refl _ | apply le_push | refine le_up ?_ (by assumption) | refine le_set ?_ (by first | omega | (simp only [hn_push, hn_up]; omega))), ⟨_, rfl⟩, by simp only [askOkB, emptyT_def, p1, p2, h9, h10, h11, ↓reduceIte, Int.reduceEq, decide_true, decide_false, Bool.true_and, Bool.false_and, Bool.and_false, Bool.and_true, true_or, or_true, or_self, false_or, or_false]⟩
    repeat (first | rw [kz_o] | rw [kz_r0] | simp -dsimp -implicitDefEqProofs only [go_sem, Nat.reduceBEq, Nat.reduceAdd, Nat.reduceLeDiff, Nat.reduceMul, Int.reduceLE, Int.reduceLT, Int.reduceBEq, p1, p2, h9, h10])
    refine gz_dec (fun h12 => ?_) (fun h12 => ?_)
    rotate_left
    · repeat (first | rw [kz_o] | rw [kz_r0] | simp -dsimp -implicitDefEqProofs only [go_sem, Nat.reduceBEq, Nat.reduceAdd, Nat.reduceLeDiff, Nat.reduceMul, Int.reduceLE, Int.reduceLT, Int.reduceBEq, p1, p2, h9, h10, h11, h12])
      exact ⟨by repeat (first | exact H2.le.refl _ | apply le_push | refine le_up ?_ (by assumption) | refine le_set ?_ (by first | omega | (simp only [hn_push, hn_up]; omega))), ⟨_, rfl⟩, by simp only [askOkB, emptyT_def, p1, p2, h9, h10, h11, h12, ↓reduceIte, Int.reduceEq, decide_true, decide_false, Bool.true_and, Bool.false_and, Bool.and_false, Bool.and_true, true_or, or_true, or_self, false_or, or_false]⟩
    repeat (first | rw [kz_o] | rw [kz_r0] | simp -dsimp -implicitDefEqProofs only [go_sem, Nat.reduceBEq, Nat.reduceAdd, Nat.reduceLeDiff, Nat.reduceMul, Int.reduceLE, Int.reduceLT, Int.reduceBEq, p1, p2, h9, h10, h11, h12])
    refine gz_dec (fun h13 => ?_) (fun h13 => ?_)
    rotate_left
    · repeat (first | rw [kz_o] | rw [kz_r0] | simp -dsimp -implicitDefEqProofs only [go_sem, Nat.reduceBEq, Nat.reduceAdd, Nat.reduceLeDiff, Nat.reduceMul, Int.reduceLE, Int.reduceLT, Int.reduceBEq, p1, p2, h9, h10, h11, h12, h13])
      exact ⟨by repeat (first | exact H2.le.refl _ | apply le_push | refine le_up ?_ (by assumption) | refine le_set ?_ (by first | omega | (simp only [hn_push, hn_up]; omega))), ⟨_, rfl⟩, by simp only [askOkB, emptyT_def, p1, p2, h9, h10, h11, h12, h13, ↓reduceIte, Int.reduceEq, decide_true, decide_false, Bool.true_and, Bool.false_and, Bool.and_false, Bool.and_true, true_or, or_true, or_self, false_or, or_false]⟩
    repeat (first | rw [kz_o] | rw [kz_r0] | simp -dsimp -implicitDefEqProofs only [go_sem, Nat.reduceBEq, Nat.reduceAdd, Nat.reduceLeDiff, Nat.reduceMul, Int.reduceLE, Int.reduceLT, Int.reduceBEq, p1, p2, h9, h10, h11, h12, h13])
    refine gz_intro (fun h14 => ?_) (fun h14 => ?_)
    rotate_left
    · repeat (first | rw [kz_o] | rw [kz_r0] | simp -dsimp -implicitDefEqProofs only [go_sem, Nat.reduceBEq, Nat.reduceAdd, Nat.reduceLeDiff, Nat.reduceMul, Int.reduceLE, Int.reduceLT, Int.reduceBEq, p1, p2, h9, h10, h11, h12, h13, h14])
      exact ⟨by repeat (first | exact H2.le.refl _ | apply le_push | refine le_up ?_ (by assumption) | refine le_set ?_ (by first | omega | (simp only [hn_push, hn_up]; omega))), ⟨_, rfl⟩, by simp only [askOkB, emptyT_def, p1, p2, h9, h10, h11, h12, h13, h14, ↓reduceIte, Int.reduceEq, decide_true, decide_false, Bool.true_and, Bool.false_and, Bool.and_false, Bool.and_true, true_or, or_true, or_self, false_or, or_false]⟩
    repeat (first | rw [kz_o] | rw [kz_r0] | simp -dsimp -implicitDefEqProofs only [go_sem, Nat.reduceBEq, Nat.reduceAdd, Nat.reduceLeDiff, Nat.reduceMul, Int.reduceLE, Int.reduceLT, Int.reduceBEq, p1, p2, h9, h10, h11, h12, h13, h14])
    exact ⟨by repeat (first | exact H2.le.refl _ | apply le_push | refine le_up ?_ (by assumption) | refine le_set ?_ (by first | omega | (simp only [hn_push, hn_up]; omega))), ⟨_, rfl⟩, by simp only [askOkB, emptyT_def, p1, p2, h9, h10, h11, h12, h13, h14, ↓reduceIte, Int.reduceEq, decide_true, decide_false, Bool.true_and, Bool.false_and, Bool.and_false, Bool.and_true, true_or, or_true, or_self, false_or, or_false]⟩
  repeat (first | rw [kz_o] | rw [kz_r0] | simp -dsimp -implicitDefEqProofs only [go_sem, Nat.reduceBEq, Nat.reduceAdd, Nat.reduceLeDiff, Nat.reduceMul, Int.reduceLE, Int.reduceLT, Int.reduceBEq, p1, p2])
  refine gz_dec (fun p3 => ?_) (fun p3 => ?_)
  · repeat (first | rw [kz_o] | rw [kz_r0] | simp -dsimp -implicitDefEqProofs only [go_sem, Nat.reduceBEq, Nat.reduceAdd, Nat.reduceLeDiff, Nat.reduceMul, Int.reduceLE, Int.reduceLT, Int.reduceBEq, p1, p2, p3])
    refine wz_intro isByte_ok ?_
    rintro _ h' ⟨rfl, rfl⟩
    cases h15 : inI c.pos 0 255
    · repeat (first | rw [kz_o] | rw [kz_r0] | simp -dsimp -implicitDefEqProofs only [go_sem, Nat.reduceBEq, Nat.reduceAdd, Nat.reduceLeDiff, Nat.reduceMul, Int.reduceLE, Int.reduceLT, Int.reduceBEq, p1, p2, p3])
      exact ⟨by repeat (first | exact H2.le.refl _ | apply le_push | refine le_up ?_ (by assumption) | refine le_set ?_ (by first | omega | (simp only [hn_push, hn_up]; omega))), ⟨_, rfl⟩, by simp only [askOkB, emptyT_def, p1, p2, p3, h15, ↓reduceIte, Int.reduceEq, decide_true, decide_false, Bool.true_and, Bool.false_and, Bool.and_false, Bool.and_true, true_or, or_true, or_self, false_or, or_false]⟩
    repeat (first | rw [kz_o] | rw [kz_r0] | simp -dsimp -implicitDefEqProofs only [go_sem, Nat.reduceBEq, Nat.reduceAdd, Nat.reduceLeDiff, Nat.reduceMul, Int.reduceLE, Int.reduceLT, Int.reduceBEq, p1, p2, p3])
    refine gz_intro (fun h16 => ?_) (fun h16 => ?_)
    rotate_left
    · repeat (first | rw [kz_o] | rw [kz_r0] | simp -dsimp -implicitDefEqProofs only [go_sem, Nat.reduceBEq, Nat.reduceAdd, Nat.reduceLeDiff, Nat.reduceMul, Int.reduceLE, Int.reduceLT, Int.reduceBEq, p1, p2, p3, h15, h16])
      exact ⟨by repeat (first | exact H2.le.refl _ | apply le_push | refine le_up ?_ (by assumption) | refine le_set ?_ (by first | omega | (simp only [hn_push, hn_up]; omega))), ⟨_, rfl⟩, by simp only [askOkB, emptyT_def, p1, p2, p3, h15, h16, ↓reduceIte, Int.reduceEq, decide_true, decide_false, Bool.true_and, Bool.false_and, Bool.and_false, Bool.and_true, true_or, or_true, or_self, false_or, or_false]⟩
    repeat (first | rw [kz_o] | rw [kz_r0] | simp -dsimp -implicitDefEqProofs only [go_sem, Nat.reduceBEq, Nat.reduceAdd, Nat.reduceLeDiff, Nat.reduceMul, Int.reduceLE, Int.reduceLT, Int.reduceBEq, p1, p2, p3, h15, h16])
    refine pw_intro (noConfig_ok (F := fun j => F (j + 3)) (c := c.config)) ?_
    rintro _ n18 hn18 rfl
    cases h17 : noCfg c.config
    · repeat (first | rw [kz_o] | rw [kz_r0] | simp -dsimp -implicitDefEqProofs only [go_sem, Nat.reduceBEq, Nat.reduceAdd, Nat.reduceLeDiff, Nat.reduceMul, Int.reduceLE, Int.reduceLT, Int.reduceBEq, p1, p2, p3, h15, h16])
      exact ⟨by repeat (first | exact H2.le.refl _ | apply le_push | refine le_up ?_ (by assumption) | refine le_set ?_ (by first | omega | (simp only [hn_push, hn_up]; omega))), ⟨_, rfl⟩, by simp only [askOkB, emptyT_def, p1, p2, p3, h15, h16, h17, ↓reduceIte, Int.reduceEq, decide_true, decide_false, Bool.true_and, Bool.false_and, Bool.and_false, Bool.and_true, true_or, or_true, or_self, false_or, or_false]⟩
    repeat (first | rw [kz_o] | rw [kz_r0] | simp -dsimp -implicitDefEqProofs only [go_sem, Nat.reduceBEq, Nat.reduceAdd, Nat.reduceLeDiff, Nat.reduceMul, Int.reduceLE, Int.reduceLT, Int.reduceBEq, p1, p2, p3, h15, h16])
    exact ⟨by repeat (first | exact H2.le.refl _ | apply le_push | refine le_up ?_ (by assumption) | refine le_set ?_ (by first | omega | (simp only [hn_push, hn_up]; omega))), ⟨_, rfl⟩, by simp only [askOkB, emptyT_def, p1, p2, p3, h15, h16, h17, ↓reduceIte, Int.reduceEq, decide_true, decide_false, Bool.true_and, Bool.false_and, Bool.and_false, Bool.and_true, true_or, or_true, or_self, false_or, or_false]⟩
  repeat (first | rw [kz_o] | rw [kz_r0] | simp -dsimp -implicitDefEqProofs only [go_sem, Nat.reduceBEq, Nat.reduceAdd, Nat.reduceLeDiff, Nat.reduceMul, Int.reduceLE, Int.reduceLT, Int.reduceBEq, p1, p2, p3])
  refine gz_dec (fun p4 => ?_) (fun p4 => ?_)
  · repeat (first | rw [kz_o] | rw [kz_r0] | simp -dsimp -implicitDefEqProofs only [go_sem, Nat.reduceBEq, Nat.reduceAdd, Nat.reduceLeDiff, Nat.reduceMul, Int.reduceLE, Int.reduceLT, Int.reduceBEq, p1, p2, p3, p4])
    refine wz_intro isByte_ok ?_
    rintro _ h' ⟨rfl, rfl⟩
    cases h19 : inI c.pos 0 255
    · repeat (first | rw [kz_o] | rw [kz_r0] | simp -dsimp -implicitDefEqProofs only [go_sem, Nat.reduceBEq, Nat.reduceAdd, Nat.reduceLeDiff, Nat.reduceMul, Int.reduceLE, Int.reduceLT, Int.reduceBEq, p1, p2, p3, p4])
      exact ⟨by repeat (first | exact H2.le.refl _ | apply le_push | refine le_up ?_ (by assumption) | refine le_set ?_ (by first | omega | (simp only [hn_push, hn_up]; omega))), ⟨_, rfl⟩, by simp only [askOkB, emptyT_def, p1, p2, p3, p4, h19, ↓reduceIte, Int.reduceEq, decide_true, decide_false, Bool.true_and, Bool.false_and, Bool.and_false, Bool.and_true, true_or, or_true, or_self, false_or, or_false]⟩
    repeat (first | rw [kz_o] | rw [kz_r0] | simp -dsimp -implicitDefEqProofs only [go_sem, Nat.reduceBEq, Nat.reduceAdd, Nat.reduceLeDiff, Nat.reduceMul, Int.reduceLE, Int.reduceLT, Int.reduceBEq, p1, p2, p3, p4])
    refine gz_intro (fun h20 => ?_) (fun h20 => ?_)
    rotate_left
    · repeat (first | rw [kz_o] | rw [kz_r0] | simp -dsimp -implicitDefEqProofs only [go_sem, Nat.reduceBEq, Nat.reduceAdd, Nat.reduceLeDiff, Nat.reduceMul, Int.reduceLE, Int.reduceLT, Int.reduceBEq, p1, p2, p3, p4, h19, h20])
      exact ⟨by repeat (first | exact H2.le.refl _ | apply le_push | refine le_up ?_ (by assumption) | refine le_set ?_ (by first | omega | (simp only [hn_push, hn_up]; omega))), ⟨_, rfl⟩, by simp only [askOkB, emptyT_def, p1, p2, p3, p4, h19, h20, ↓reduceIte, Int.reduceEq, decide_true, decide_false, Bool.true_and, Bool.false_and, Bool.and_false, Bool.and_true, true_or, or_true, or_self, false_or, or_false]⟩
    repeat (first | rw [kz_o] | rw [kz_r0] | simp -dsimp -implicitDefEqProofs only [go_sem, Nat.reduceBEq, Nat.reduceAdd, Nat.reduceLeDiff, Nat.reduceMul, Int.reduceLE, Int.reduceLT, Int.reduceBEq, p1, p2, p3, p4, h19, h20])
    refine pw_intro (noConfig_ok (F := fun j => F (j + 3)) (c := c.config)) ?_
    rintro _ n22 hn22 rfl
    cases h21 : noCfg c.config
    · repeat (first | rw [kz_o] | rw [kz_r0] | simp -dsimp -implicitDefEqProofs only [go_sem, Nat.reduceBEq, Nat.reduceAdd, Nat.reduceLeDiff, Nat.reduceMul, Int.reduceLE, Int.reduceLT, Int.reduceBEq, p1, p2, p3, p4, h19, h20])
      exact ⟨by repeat (first | exact H2.le.refl _ | apply le_push | refine le_up ?_ (by assumption) | refine le_set ?_ (by first | omega | (simp only [hn_push, hn_up]; omega))), ⟨_, rfl⟩, by simp only [askOkB, emptyT_def, p1, p2, p3, p4, h19, h20, h21, ↓reduceIte, Int.reduceEq, decide_true, decide_false, Bool.true_and, Bool.false_and, Bool.and_false, Bool.and_true, true_or, or_true, or_self, false_or, or_false]⟩
    repeat (first | rw [kz_o] | rw [kz_r0] | simp -dsimp -implicitDefEqProofs only [go_sem, Nat.reduceBEq, Nat.reduceAdd, Nat.reduceLeDiff, Nat.reduceMul, Int.reduceLE, Int.reduceLT, Int.reduceBEq, p1, p2, p3, p4, h19, h20])
    exact ⟨by repeat (first | exact H2.le.refl _ | apply le_push | refine le_up ?_ (by assumption) | refine le_set ?_ (by first | omega | (simp only [hn_push, hn_up]; omega))), ⟨_, rfl⟩, by simp only [askOkB, emptyT_def, p1, p2, p3, p4, h19, h20, h21, ↓reduceIte, Int.reduceEq, decide_true, decide_false, Bool.true_and, Bool.false_and, Bool.and_false, Bool.and_true, true_or, or_true, or_self, false_or, or_false]⟩
  repeat (first | rw [kz_o] | rw [kz_r0] | simp -dsimp -implicitDefEqProofs only [go_sem, Nat.reduceBEq, Nat.reduceAdd, Nat.reduceLeDiff, Nat.reduceMul, Int.reduceLE, Int.reduceLT, Int.reduceBEq, p1, p2, p3, p4])
  refine gz_dec (fun p6 => ?_) (fun p6 => ?_)
  · repeat (first | rw [kz_o] | rw [kz_r0] | simp -dsimp -implicitDefEqProofs only [go_sem, Nat.reduceBEq, Nat.reduceAdd, Nat.reduceLeDiff, Nat.reduceMul, Int.reduceLE, Int.reduceLT, Int.reduceBEq, p1, p2, p3, p4, p6])
    refine wz_intro isByte_ok ?_
    rintro _ h' ⟨rfl, rfl⟩
    cases h23 : inI c.pos 0 255
    · repeat (first | rw [kz_o] | rw [kz_r0] | simp -dsimp -implicitDefEqProofs only [go_sem, Nat.reduceBEq, Nat.reduceAdd, Nat.reduceLeDiff, Nat.reduceMul, Int.reduceLE, Int.reduceLT, Int.reduceBEq, p1, p2, p3, p4, p6])
      exact ⟨by repeat (first | exact H2.le.refl _ | apply le_push | refine le_up ?_ (by assumption) | refine le_set ?_ (by first | omega | (simp only [hn_push, hn_up]; omega))), ⟨_, rfl⟩, by simp only [askOkB, emptyT_def, p1, p2, p3, p4, p6, h23, ↓reduceIte, Int.reduceEq, decide_true, decide_false, Bool.true_and, Bool.false_and, Bool.and_false, Bool.and_true, true_or, or_true, or_self, false_or, or_false]⟩
    repeat (first | rw [kz_o] | rw [kz_r0] | simp -dsimp -implicitDefEqProofs only [go_sem, Nat.reduceBEq, Nat.reduceAdd, Nat.reduceLeDiff, Nat.reduceMul, Int.reduceLE, Int.reduceLT, Int.reduceBEq, p1, p2, p3, p4, p6])
    refine gz_intro (fun h24 => ?_) (fun h24 => ?_)
    rotate_left
    · repeat (first | rw [kz_o] | rw [kz_r0] | simp -dsimp -implicitDefEqProofs only [go_sem, Nat.reduceBEq, Nat.reduceAdd, Nat.reduceLeDiff, Nat.reduceMul, Int.reduceLE, Int.reduceLT, Int.reduceBEq, p1, p2, p3, p4, p6, h23, h24])
      exact ⟨by repeat (first | exact H2.le.refl _ | apply le_push | refine le_up ?_ (by assumption) | refine le_set ?_ (by first | omega | (simp only [hn_push, hn_up]; omega))), ⟨_, rfl⟩, by simp only [askOkB, emptyT_def, p1, p2, p3, p4, p6, h23, h24, ↓reduceIte, Int.reduceEq, decide_true, decide_false, Bool.true_and, Bool.false_and, Bool.and_false, Bool.and_true, true_or, or_true, or_self, false_or, or_false]⟩
    repeat (first | rw [kz_o] | rw [kz_r0] | simp -dsimp -implicitDefEqProofs only [go_sem, Nat.reduceBEq, Nat.reduceAdd, Nat.reduceLeDiff, Nat.reduceMul, Int.reduceLE, Int.reduceLT, Int.reduceBEq, p1, p2, p3, p4, p6, h23, h24])
    refine pw_intro (noConfig_ok (F := fun j => F (j + 3)) (c := c.config)) ?_
    rintro _ n26 hn26 rfl
    cases h25 : noCfg c.config
    · repeat (first | rw [kz_o] | rw [kz_r0] | simp -dsimp -implicitDefEqProofs only [go_sem, Nat.reduceBEq, Nat.reduceAdd, Nat.reduceLeDiff, Nat.reduceMul, Int.reduceLE, Int.reduceLT, Int.reduceBEq, p1, p2, p3, p4, p6, h23, h24])
      exact ⟨by repeat (first | exact H2.le.refl _ | apply le_push | refine le_up ?_ (by assumption) | refine le_set ?_ (by first | omega | (simp only [hn_push, hn_up]; omega))), ⟨_, rfl⟩, by simp only [askOkB, emptyT_def, p1, p2, p3, p4, p6, h23, h24, h25, ↓reduceIte, Int.reduceEq, decide_true, decide_false, Bool.true_and, Bool.false_and, Bool.and_false, Bool.and_true, true_or, or_true, or_self, false_or, or_false]⟩
    repeat (first | rw [kz_o] | rw [kz_r0] | simp -dsimp -implicitDefEqProofs only [go_sem, Nat.reduceBEq, Nat.reduceAdd, Nat.reduceLeDiff, Nat.reduceMul, Int.reduceLE, Int.reduceLT, Int.reduceBEq, p1, p2, p3, p4, p6, h23, h24])
    exact ⟨by repeat (first | exact H2.le.refl _ | apply le_push | refine le_up ?_ (by assumption) | refine le_set ?_ (by first | omega | (simp only [hn_push, hn_up]; omega))), ⟨_, rfl⟩, by simp only [askOkB, emptyT_def, p1, p2, p3, p4, p6, h23, h24, h25, ↓reduceIte, Int.reduceEq, decide_true, decide_false, Bool.true_and, Bool.false_and, Bool.and_false, Bool.and_true, true_or, or_true, or_self, false_or, or_false]⟩
  repeat (first | rw [kz_o] | rw [kz_r0] | simp -dsimp -implicitDefEqProofs only [go_sem, Nat.reduceBEq, Nat.reduceAdd, Nat.reduceLeDiff, Nat.reduceMul, Int.reduceLE, Int.reduceLT, Int.reduceBEq, p1, p2, p3, p4, p6])
  refine gz_dec (fun p5 => ?_) (fun p5 => ?_)
  · repeat (first | rw [kz_o] | rw [kz_r0] | simp -dsimp -implicitDefEqProofs only [go_sem, Nat.reduceBEq, Nat.reduceAdd, Nat.reduceLeDiff, Nat.reduceMul, Int.reduceLE, Int.reduceLT, Int.reduceBEq, p1, p2, p3, p4, p6, p5])
    refine gz_dec (fun h27 => ?_) (fun h27 => ?_)
    rotate_left
    · repeat (first | rw [kz_o] | rw [kz_r0] | simp -dsimp -implicitDefEqProofs only [go_sem, Nat.reduceBEq, Nat.reduceAdd, Nat.reduceLeDiff, Nat.reduceMul, Int.reduceLE, Int.reduceLT, Int.reduceBEq, p1, p2, p3, p4, p6, p5, h27])
      exact ⟨by repeat (first | exact H2.le.refl _ | apply le_push | refine le_up ?_ (by assumption) | refine le_set ?_ (by first | omega | (simp only [hn_push, hn_up]; omega))), ⟨_, rfl⟩, by simp only [askOkB, emptyT_def, p1, p2, p3, p4, p6, p5, h27, ↓reduceIte, Int.reduceEq, decide_true, decide_false, Bool.true_and, Bool.false_and, Bool.and_false, Bool.and_true, true_or, or_true, or_self, false_or, or_false]⟩
    repeat (first | rw [kz_o] | rw [kz_r0] | simp -dsimp -implicitDefEqProofs only [go_sem, Nat.reduceBEq, Nat.reduceAdd, Nat.reduceLeDiff, Nat.reduceMul, Int.reduceLE, Int.reduceLT, Int.reduceBEq, p1, p2, p3, p4, p6, p5, h27])
    refine pw_intro (allIn_ok hf3) ?_
    rintro _ n29 hn29 rfl
    cases h28 : allI c.picks 0 255
    · repeat (first | rw [kz_o] | rw [kz_r0] | simp -dsimp -implicitDefEqProofs only [go_sem, Nat.reduceBEq, Nat.reduceAdd, Nat.reduceLeDiff, Nat.reduceMul, Int.reduceLE, Int.reduceLT, Int.reduceBEq, p1, p2, p3, p4, p6, p5, h27])
      exact ⟨by repeat (first | exact H2.le.refl _ | apply le_push | refine le_up ?_ (by assumption) | refine le_set ?_ (by first | omega | (simp only [hn_push, hn_up]; omega))), ⟨_, rfl⟩, by simp only [askOkB, emptyT_def, p1, p2, p3, p4, p6, p5, h27, h28, ↓reduceIte, Int.reduceEq, decide_true, decide_false, Bool.true_and, Bool.false_and, Bool.and_false, Bool.and_true, true_or, or_true, or_self, false_or, or_false]⟩
    repeat (first | rw [kz_o] | rw [kz_r0] | simp -dsimp -implicitDefEqProofs only [go_sem, Nat.reduceBEq, Nat.reduceAdd, Nat.reduceLeDiff, Nat.reduceMul, Int.reduceLE, Int.reduceLT, Int.reduceBEq, p1, p2, p3, p4, p6, p5, h27])
    refine gz_intro (fun h30 => ?_) (fun h30 => ?_)
    rotate_left
    · repeat (first | rw [kz_o] | rw [kz_r0] | simp -dsimp -implicitDefEqProofs only [go_sem, Nat.reduceBEq, Nat.reduceAdd, Nat.reduceLeDiff, Nat.reduceMul, Int.reduceLE, Int.reduceLT, Int.reduceBEq, p1, p2, p3, p4, p6, p5, h27, h28, h30])
      exact ⟨by repeat (first | exact H2.le.refl _ | apply le_push | refine le_up ?_ (by assumption) | refine le_set ?_ (by first | omega | (simp only [hn_push, hn_up]; omega))), ⟨_, rfl⟩, by simp only [askOkB, emptyT_def, p1, p2, p3, p4, p6, p5, h27, h28, h30, ↓reduceIte, Int.reduceEq, decide_true, decide_false, Bool.true_and, Bool.false_and, Bool.and_false, Bool.and_true, true_or, or_true, or_self, false_or, or_false]⟩
    repeat (first | rw [kz_o] | rw [kz_r0] | simp -dsimp -implicitDefEqProofs only [go_sem, Nat.reduceBEq, Nat.reduceAdd, Nat.reduceLeDiff, Nat.reduceMul, Int.reduceLE, Int.reduceLT, Int.reduceBEq, p1, p2, p3, p4, p6, p5, h27, h28, h30])
    refine pw_intro (noConfig_ok (F := fun j => F (j + 3)) (c := c.config)) ?_
    rintro _ n32 hn32 rfl
    cases h31 : noCfg c.config
    · repeat (first | rw [kz_o] | rw [kz_r0] | simp -dsimp -implicitDefEqProofs only [go_sem, Nat.reduceBEq, Nat.reduceAdd, Nat.reduceLeDiff, Nat.reduceMul, Int.reduceLE, Int.reduceLT, Int.reduceBEq, p1, p2, p3, p4, p6, p5, h27, h28, h30])
      exact ⟨by repeat (first | exact H2.le.refl _ | apply le_push | refine le_up ?_ (by assumption) | refine le_set ?_ (by first | omega | (simp only [hn_push, hn_up]; omega))), ⟨_, rfl⟩, by simp only [askOkB, emptyT_def, p1, p2, p3, p4, p6, p5, h27, h28, h30, h31, ↓reduceIte, Int.reduceEq, decide_true, decide_false, Bool.true_and, Bool.false_and, Bool.and_false, Bool.and_true, true_or, or_true, or_self, false_or, or_false]⟩
    repeat (first | rw [kz_o] | rw [kz_r0] | simp -dsimp -implicitDefEqProofs only [go_sem, Nat.reduceBEq, Nat.reduceAdd, Nat.reduceLeDiff, Nat.reduceMul, Int.reduceLE, Int.reduceLT, Int.reduceBEq, p1, p2, p3, p4, p6, p5, h27, h28, h30])
    exact ⟨by repeat (first | exact H2.le.refl _ | apply le_push | refine le_up ?_ (by assumption) | refine le_set ?_ (by first | omega | (simp only [hn_push, hn_up]; omega))), ⟨_, rfl⟩, by simp only [askOkB, emptyT_def, p1, p2, p3, p4, p6, p5, h27, h28, h30, h31, ↓reduceIte, Int.reduceEq, decide_true, decide_false, Bool.true_and, Bool.false_and, Bool.and_false, Bool.and_true, true_or, or_true, or_self, false_or, or_false]⟩
  repeat (first | rw [kz_o] | rw [kz_r0] | simp -dsimp -implicitDefEqProofs only [go_sem, Nat.reduceBEq, Nat.reduceAdd, Nat.reduceLeDiff, Nat.reduceMul, Int.reduceLE, Int.reduceLT, Int.reduceBEq, p1, p2, p3, p4, p6, p5])
  exact ⟨by repeat (first | exact H2.le.refl _ | apply le_push | refine le_up ?_ (by assumption) | refine le_set ?_ (by first | omega | (simp only [hn_push, hn_up]; omega))), ⟨_, rfl⟩, by simp only [askOkB, emptyT_def, p1, p2, p3, p4, p6, p5, ↓reduceIte, Int.reduceEq, decide_true, decide_false, Bool.true_and, Bool.false_and, Bool.and_false, Bool.and_true, true_or, or_true, or_self, false_or, or_false]⟩
end Go.Bi
