/- The walk of the reference's AskText. -/
import Derived.Test.YtjofbadmkigkjaaDd
set_option linter.unusedSimpArgs false
set_option linter.unusedVariables false
set_option maxRecDepth 20000
namespace Go.Bi
open Go.Proofs
open Go.Ai (wrap_i64 wrap_u64 wrap_u8 Heap)
variable {W0 : World} {P : Program}
theorem gz_ndec {p : Prop} [Decidable p] {A B : Prop} (ha : ¬ p → A) (hb : p → B) : gz (!decide p) A B .mk := gz_intro (fun h => ha (by simpa using h)) (fun h => hb (by simpa using h))
def numB (c : LConfig) : Bool := decide (c.seed = 0) && decide (c.new = 0)
def sOkB (a : LAsk) : Bool := inI a.op 1 6 && (inI a.pos 0 255 && (!decide ((20 : Int) < a.picks.length) && (allI a.picks 0 255 && (
  if a.op = 1 then cfgOk a.config && (!decide ((200 : Int) < a.text.size) && (decide (a.pos = 0) && !decide ((0 : Int) < a.picks.length)))
  else if a.op = 2 then emptyT a.text && (!decide ((0 : Int) < a.picks.length) && (bareB a.config && (inI a.config.seed 0 1000000000 && inI a.config.new 1 24)))
  else if a.op = 5 then emptyT a.text && (decide (a.pos = 0) && (bareB a.config && numB a.config))
  else emptyT a.text && (!decide ((0 : Int) < a.picks.length) && (bareB a.config && numB a.config))))))
theorem inI_iff {x a b : Int} : inI x a b = true ↔ a ≤ x ∧ x ≤ b := by simp [inI]
theorem allI_nil {zs : List Int} {x y : Int} (h : zs.length = 0) : allI zs x y = true := by
  have : zs = [] := List.eq_nil_of_length_eq_zero h
  subst this; rfl
theorem sOk_eq {c : LAsk} : askOkB c = sOkB c := by
  rw [Bool.eq_iff_iff]
  have hal := @allI_nil c.picks 0 255
  simp only [askOkB, sOkB, noCfg, bareB, numB]
  by_cases p1 : c.op = 1
  · simp only [p1, ↓reduceIte, Bool.and_eq_true, Bool.not_eq_true', decide_eq_true_eq, decide_eq_false_iff_not, inI_iff]
    constructor
    · rintro ⟨h1, h2, h3, h4⟩
      exact ⟨by omega, by omega, by omega, hal (by omega), h1, by omega, h3, by omega⟩
    · rintro ⟨h1, h2, h3, h4, h5, h6, h7, h8⟩
      exact ⟨h5, by omega, h7, by omega⟩
  by_cases p2 : c.op = 2
  · simp only [p2, Int.reduceEq, ↓reduceIte, Bool.and_eq_true, Bool.not_eq_true', decide_eq_true_eq, decide_eq_false_iff_not, inI_iff]
    constructor
    · rintro ⟨h1, h2, h3, h4, h5, h6, h7⟩
      exact ⟨by omega, by omega, by omega, hal (by omega), h6, by omega, ⟨h4, h5⟩, h2, h3⟩
    · rintro ⟨h1, h2, h3, h4, h5, h6, ⟨h7, h8⟩, h9, h10⟩
      exact ⟨h2, h9, h10, h7, h8, h5, by omega⟩
  by_cases p5 : c.op = 5
  · simp only [p5, Int.reduceEq, ↓reduceIte, or_self, Bool.and_eq_true, Bool.not_eq_true', decide_eq_true_eq, decide_eq_false_iff_not, inI_iff]
    constructor
    · rintro ⟨h1, h2, h3, ⟨h4, h5, h6, h7⟩, h8⟩
      exact ⟨by omega, by omega, by omega, h2, h3, h8, ⟨h4, h7⟩, h5, h6⟩
    · rintro ⟨h1, h2, h3, h4, h5, h6, ⟨h7, h8⟩, h9, h10⟩
      exact ⟨by omega, h4, h5, ⟨h7, h9, h10, h8⟩, h6⟩
  · simp only [if_neg p1, if_neg p2, if_neg p5]
    split
    · simp only [Bool.and_eq_true, Bool.not_eq_true', decide_eq_true_eq, decide_eq_false_iff_not, inI_iff]
      constructor
      · rintro ⟨h1, h2, ⟨h4, h5, h6, h7⟩, h8⟩
        exact ⟨by omega, by omega, by omega, hal (by omega), h2, by omega, ⟨h4, h7⟩, h5, h6⟩
      · rintro ⟨h1, h2, h3, h4, h5, h6, ⟨h7, h8⟩, h9, h10⟩
        exact ⟨h2, h5, ⟨h7, h9, h10, h8⟩, by omega⟩
    · constructor
      · intro h; cases h
      · intro h
        simp only [Bool.and_eq_true, inI_iff] at h
        omega
set_option maxHeartbeats 8000000 in
theorem specAskText_ok {F : Nat → Adr} {c : LAsk} {h : H2} (hf : fitAsk c) : PW Try.prog W0 9 [.st (xAsk F c)] h (fun r => r = askR c) := by
  have hf0 := hf
  obtain ⟨hf1, ⟨hf2, _⟩, hf3⟩ := hf
  refine (PW.of (q := fun _ => True) (Q := fun r => r = askR c) ?_).mono fun _ h => h.1
  refine start (P := Try.prog) [[0], [1], [], [1], [1, 4], [1, 4, 5], [1, 4, 5, 44], [1, 4], [], [1, 4], [1, 4], [1, 4, 6], [1, 4, 6], [1, 4, 6], [4], [1, 4, 5, 44], [1, 4], [], [1, 4], [1, 4, 5, 44], [1, 4, 5], [], [1, 4], [1, 4], [1, 4, 7], [1, 4, 7], [1, 4, 7], [4], [1, 4, 5], [], [1, 4]] (by kernel_rfl) Try.func9 rfl (by decide) (by decide +kernel) (rs := [.tmp 2, .tmp 3]) rfl rfl (Nat.le_of_ble_eq_true rfl) ?_
  intro wf
  repeat (first | rw [kz_o] | rw [kz_r0] | simp -dsimp -implicitDefEqProofs only [go_sem, Nat.reduceBEq, Nat.reduceAdd, Nat.reduceLeDiff, Nat.reduceMul, Int.reduceLE, Int.reduceLT, Int.reduceBEq])
  have fin : ∀ (s : ByteArray) (b : Bool) (g' : H2), h.le g' → askR c = .tp [.raw (.string s), .raw (.bool b)] → h.le g' ∧ ∃ y, Fz (fun b => hn h .mk ≤ b) (fun _ => True) g' (.tp [.raw (.string s), .raw (.bool b)]) y ∧ y = askR c :=
    fun s b g' hl he => ⟨hl, _, .tp rfl (fun i hi hi' => by
      match i, hi with
      | 0, _ => exact .raw
      | 1, _ => exact .raw), he.symm⟩
  have bad : ∀ g', h.le g' → sOkB c = false → h.le g' ∧ ∃ y, Fz (fun b => hn h .mk ≤ b) (fun _ => True) g' (.tp [.raw (.string ⟨#[]⟩), .raw (.bool false)]) y ∧ y = askR c :=
    fun g' hl he => fin _ _ _ hl (by rw [askR, sOk_eq, he]; rfl)
  have good : sOkB c = true → askR c = .tp [.raw (.string (askT c)), .raw (.bool true)] := fun he => by rw [askR, sOk_eq, if_pos he]
  refine wz_intro l01In_ok ?_
  rintro _ h' ⟨rfl, rfl⟩
  cases h1 : inI c.op 1 6
  · repeat (first | rw [kz_o] | rw [kz_r0] | simp -dsimp -implicitDefEqProofs only [go_sem, Nat.reduceBEq, Nat.reduceAdd, Nat.reduceLeDiff, Nat.reduceMul, Int.reduceLE, Int.reduceLT, Int.reduceBEq, ])
    exact bad _ (by repeat (first | exact H2.le.refl _ | apply le_push | refine le_up ?_ (by assumption) | refine le_up ?_ (by simp only [hn_up, hn_push] at *; omega))) (by first | (simp only [sOkB, emptyT_def, h1, ↓reduceIte, Int.reduceEq, decide_true, decide_false, Bool.true_and, Bool.false_and, Bool.and_false, Bool.and_true, Bool.not_true, Bool.not_false]; done) | (simp only [sOkB, emptyT_def, h1, ↓reduceIte, Int.reduceEq, decide_true, decide_false, Bool.true_and, Bool.false_and, Bool.and_false, Bool.and_true, Bool.not_true, Bool.not_false]; simp only [↓reduceIte, Int.reduceEq, decide_true, decide_false, Bool.true_and, Bool.false_and, Bool.and_false, Bool.and_true, Bool.not_true, Bool.not_false]))
  repeat (first | rw [kz_o] | rw [kz_r0] | simp -dsimp -implicitDefEqProofs only [go_sem, Nat.reduceBEq, Nat.reduceAdd, Nat.reduceLeDiff, Nat.reduceMul, Int.reduceLE, Int.reduceLT, Int.reduceBEq, ])
  refine wz_intro l01In_ok ?_
  rintro _ h' ⟨rfl, rfl⟩
  cases h2 : inI c.pos 0 255
  · repeat (first | rw [kz_o] | rw [kz_r0] | simp -dsimp -implicitDefEqProofs only [go_sem, Nat.reduceBEq, Nat.reduceAdd, Nat.reduceLeDiff, Nat.reduceMul, Int.reduceLE, Int.reduceLT, Int.reduceBEq, h1])
    exact bad _ (by repeat (first | exact H2.le.refl _ | apply le_push | refine le_up ?_ (by assumption) | refine le_up ?_ (by simp only [hn_up, hn_push] at *; omega))) (by first | (simp only [sOkB, emptyT_def, h1, h2, ↓reduceIte, Int.reduceEq, decide_true, decide_false, Bool.true_and, Bool.false_and, Bool.and_false, Bool.and_true, Bool.not_true, Bool.not_false]; done) | (simp only [sOkB, emptyT_def, h1, h2, ↓reduceIte, Int.reduceEq, decide_true, decide_false, Bool.true_and, Bool.false_and, Bool.and_false, Bool.and_true, Bool.not_true, Bool.not_false]; simp only [↓reduceIte, Int.reduceEq, decide_true, decide_false, Bool.true_and, Bool.false_and, Bool.and_false, Bool.and_true, Bool.not_true, Bool.not_false]))
  repeat (first | rw [kz_o] | rw [kz_r0] | simp -dsimp -implicitDefEqProofs only [go_sem, Nat.reduceBEq, Nat.reduceAdd, Nat.reduceLeDiff, Nat.reduceMul, Int.reduceLE, Int.reduceLT, Int.reduceBEq, h1])
  refine gz_ndec (fun h3 => ?_) (fun h3 => ?_)
  rotate_left
  · repeat (first | rw [kz_o] | rw [kz_r0] | simp -dsimp -implicitDefEqProofs only [go_sem, Nat.reduceBEq, Nat.reduceAdd, Nat.reduceLeDiff, Nat.reduceMul, Int.reduceLE, Int.reduceLT, Int.reduceBEq, h1, h2, h3])
    exact bad _ (by repeat (first | exact H2.le.refl _ | apply le_push | refine le_up ?_ (by assumption) | refine le_up ?_ (by simp only [hn_up, hn_push] at *; omega))) (by first | (simp only [sOkB, emptyT_def, h1, h2, ↓reduceIte, Int.reduceEq, decide_true, decide_false, Bool.true_and, Bool.false_and, Bool.and_false, Bool.and_true, Bool.not_true, Bool.not_false]; done) | (simp only [sOkB, emptyT_def, h1, h2, ↓reduceIte, Int.reduceEq, decide_true, decide_false, Bool.true_and, Bool.false_and, Bool.and_false, Bool.and_true, Bool.not_true, Bool.not_false]; simp only [h3, ↓reduceIte, Int.reduceEq, decide_true, decide_false, Bool.true_and, Bool.false_and, Bool.and_false, Bool.and_true, Bool.not_true, Bool.not_false]))
  repeat (first | rw [kz_o] | rw [kz_r0] | simp -dsimp -implicitDefEqProofs only [go_sem, Nat.reduceBEq, Nat.reduceAdd, Nat.reduceLeDiff, Nat.reduceMul, Int.reduceLE, Int.reduceLT, Int.reduceBEq, h1, h2, h3])
  refine pw_intro (l05All_ok hf3) ?_
  rintro _ n5 hn5 rfl
  cases h4 : allI c.picks 0 255
  · repeat (first | rw [kz_o] | rw [kz_r0] | simp -dsimp -implicitDefEqProofs only [go_sem, Nat.reduceBEq, Nat.reduceAdd, Nat.reduceLeDiff, Nat.reduceMul, Int.reduceLE, Int.reduceLT, Int.reduceBEq, h1, h2, h3])
    exact bad _ (by repeat (first | exact H2.le.refl _ | apply le_push | refine le_up ?_ (by assumption) | refine le_up ?_ (by simp only [hn_up, hn_push] at *; omega))) (by first | (simp only [sOkB, emptyT_def, h1, h2, h4, ↓reduceIte, Int.reduceEq, decide_true, decide_false, Bool.true_and, Bool.false_and, Bool.and_false, Bool.and_true, Bool.not_true, Bool.not_false]; done) | (simp only [sOkB, emptyT_def, h1, h2, h4, ↓reduceIte, Int.reduceEq, decide_true, decide_false, Bool.true_and, Bool.false_and, Bool.and_false, Bool.and_true, Bool.not_true, Bool.not_false]; simp only [h3, ↓reduceIte, Int.reduceEq, decide_true, decide_false, Bool.true_and, Bool.false_and, Bool.and_false, Bool.and_true, Bool.not_true, Bool.not_false]))
  repeat (first | rw [kz_o] | rw [kz_r0] | simp -dsimp -implicitDefEqProofs only [go_sem, Nat.reduceBEq, Nat.reduceAdd, Nat.reduceLeDiff, Nat.reduceMul, Int.reduceLE, Int.reduceLT, Int.reduceBEq, h1, h2, h3])
  refine pw_intro l24Byte_ok ?_
  rintro _ n2 hn2 rfl
  repeat (first | rw [kz_o] | rw [kz_r0] | simp -dsimp -implicitDefEqProofs only [go_sem, Nat.reduceBEq, Nat.reduceAdd, Nat.reduceLeDiff, Nat.reduceMul, Int.reduceLE, Int.reduceLT, Int.reduceBEq])
  refine gz_dec (fun s0 => ?_) (fun s0 => ?_)
  · have s0d : decide (c.config.seed = 0) = true := by simp only [s0, decide_true]
    repeat (first | rw [kz_o] | rw [kz_r0] | simp -dsimp -implicitDefEqProofs only [go_sem, Nat.reduceBEq, Nat.reduceAdd, Nat.reduceLeDiff, Nat.reduceMul, Int.reduceLE, Int.reduceLT, Int.reduceBEq, s0d])
    by_cases w0 : c.config.new = 0
    · have w0d : decide (c.config.new = 0) = true := by simp only [w0, decide_true]
      refine gz_dec (fun p1 => ?_) (fun p1 => ?_)
      · repeat (first | rw [kz_o] | rw [kz_r0] | simp -dsimp -implicitDefEqProofs only [go_sem, Nat.reduceBEq, Nat.reduceAdd, Nat.reduceLeDiff, Nat.reduceMul, Int.reduceLE, Int.reduceLT, Int.reduceBEq, h1, h2, h3, h4, s0d, w0d, p1])
        refine pw_intro (specConfigOk_ok (F := fun j => F (j + 3)) (c := c.config) hf2) ?_
        rintro _ n7 hn7 rfl
        cases h6 : cfgOk c.config
        · repeat (first | rw [kz_o] | rw [kz_r0] | simp -dsimp -implicitDefEqProofs only [go_sem, Nat.reduceBEq, Nat.reduceAdd, Nat.reduceLeDiff, Nat.reduceMul, Int.reduceLE, Int.reduceLT, Int.reduceBEq, h1, h2, h3, h4, s0d, w0d, p1])
          exact bad _ (by repeat (first | exact H2.le.refl _ | apply le_push | refine le_up ?_ (by assumption) | refine le_up ?_ (by simp only [hn_up, hn_push] at *; omega))) (by first | (simp only [sOkB, emptyT_def, h1, h2, h4, s0d, w0d, h6, ↓reduceIte, Int.reduceEq, decide_true, decide_false, Bool.true_and, Bool.false_and, Bool.and_false, Bool.and_true, Bool.not_true, Bool.not_false]; done) | (simp only [sOkB, emptyT_def, h1, h2, h4, s0d, w0d, h6, ↓reduceIte, Int.reduceEq, decide_true, decide_false, Bool.true_and, Bool.false_and, Bool.and_false, Bool.and_true, Bool.not_true, Bool.not_false]; simp only [h3, p1, ↓reduceIte, Int.reduceEq, decide_true, decide_false, Bool.true_and, Bool.false_and, Bool.and_false, Bool.and_true, Bool.not_true, Bool.not_false]))
        repeat (first | rw [kz_o] | rw [kz_r0] | simp -dsimp -implicitDefEqProofs only [go_sem, Nat.reduceBEq, Nat.reduceAdd, Nat.reduceLeDiff, Nat.reduceMul, Int.reduceLE, Int.reduceLT, Int.reduceBEq, h1, h2, h3, h4, s0d, w0d, p1])
        refine gz_ndec (fun h8 => ?_) (fun h8 => ?_)
        rotate_left
        · repeat (first | rw [kz_o] | rw [kz_r0] | simp -dsimp -implicitDefEqProofs only [go_sem, Nat.reduceBEq, Nat.reduceAdd, Nat.reduceLeDiff, Nat.reduceMul, Int.reduceLE, Int.reduceLT, Int.reduceBEq, h1, h2, h3, h4, s0d, w0d, p1, h6, h8])
          exact bad _ (by repeat (first | exact H2.le.refl _ | apply le_push | refine le_up ?_ (by assumption) | refine le_up ?_ (by simp only [hn_up, hn_push] at *; omega))) (by first | (simp only [sOkB, emptyT_def, h1, h2, h4, s0d, w0d, h6, ↓reduceIte, Int.reduceEq, decide_true, decide_false, Bool.true_and, Bool.false_and, Bool.and_false, Bool.and_true, Bool.not_true, Bool.not_false]; done) | (simp only [sOkB, emptyT_def, h1, h2, h4, s0d, w0d, h6, ↓reduceIte, Int.reduceEq, decide_true, decide_false, Bool.true_and, Bool.false_and, Bool.and_false, Bool.and_true, Bool.not_true, Bool.not_false]; simp only [h3, p1, h8, ↓reduceIte, Int.reduceEq, decide_true, decide_false, Bool.true_and, Bool.false_and, Bool.and_false, Bool.and_true, Bool.not_true, Bool.not_false]))
        repeat (first | rw [kz_o] | rw [kz_r0] | simp -dsimp -implicitDefEqProofs only [go_sem, Nat.reduceBEq, Nat.reduceAdd, Nat.reduceLeDiff, Nat.reduceMul, Int.reduceLE, Int.reduceLT, Int.reduceBEq, h1, h2, h3, h4, s0d, w0d, p1, h6, h8])
        refine gz_ndec (fun h9 => ?_) (fun h9 => ?_)
        rotate_left
        · repeat (first | rw [kz_o] | rw [kz_r0] | simp -dsimp -implicitDefEqProofs only [go_sem, Nat.reduceBEq, Nat.reduceAdd, Nat.reduceLeDiff, Nat.reduceMul, Int.reduceLE, Int.reduceLT, Int.reduceBEq, h1, h2, h3, h4, s0d, w0d, p1, h6, h8, h9])
          exact bad _ (by repeat (first | exact H2.le.refl _ | apply le_push | refine le_up ?_ (by assumption) | refine le_up ?_ (by simp only [hn_up, hn_push] at *; omega))) (by first | (simp only [sOkB, emptyT_def, h1, h2, h4, s0d, w0d, h6, ↓reduceIte, Int.reduceEq, decide_true, decide_false, Bool.true_and, Bool.false_and, Bool.and_false, Bool.and_true, Bool.not_true, Bool.not_false]; done) | (simp only [sOkB, emptyT_def, h1, h2, h4, s0d, w0d, h6, ↓reduceIte, Int.reduceEq, decide_true, decide_false, Bool.true_and, Bool.false_and, Bool.and_false, Bool.and_true, Bool.not_true, Bool.not_false]; simp only [h3, p1, h8, h9, ↓reduceIte, Int.reduceEq, decide_true, decide_false, Bool.true_and, Bool.false_and, Bool.and_false, Bool.and_true, Bool.not_true, Bool.not_false]))
        replace h9 := Decidable.not_not.1 h9
        repeat (first | rw [kz_o] | rw [kz_r0] | simp -dsimp -implicitDefEqProofs only [go_sem, Nat.reduceBEq, Nat.reduceAdd, Nat.reduceLeDiff, Nat.reduceMul, Int.reduceLE, Int.reduceLT, Int.reduceBEq, h1, h2, h3, h4, s0d, w0d, p1, h6, h8, h9])
        refine gz_dec (fun h10 => ?_) (fun h10 => ?_)
        · repeat (first | rw [kz_o] | rw [kz_r0] | simp -dsimp -implicitDefEqProofs only [go_sem, Nat.reduceBEq, Nat.reduceAdd, Nat.reduceLeDiff, Nat.reduceMul, Int.reduceLE, Int.reduceLT, Int.reduceBEq, h1, h2, h3, h4, s0d, w0d, p1, h6, h8, h9, h10])
          exact bad _ (by repeat (first | exact H2.le.refl _ | apply le_push | refine le_up ?_ (by assumption) | refine le_up ?_ (by simp only [hn_up, hn_push] at *; omega))) (by first | (simp only [sOkB, emptyT_def, h1, h2, h4, s0d, w0d, h6, ↓reduceIte, Int.reduceEq, decide_true, decide_false, Bool.true_and, Bool.false_and, Bool.and_false, Bool.and_true, Bool.not_true, Bool.not_false]; done) | (simp only [sOkB, emptyT_def, h1, h2, h4, s0d, w0d, h6, ↓reduceIte, Int.reduceEq, decide_true, decide_false, Bool.true_and, Bool.false_and, Bool.and_false, Bool.and_true, Bool.not_true, Bool.not_false]; simp only [h3, p1, h8, h9, h10, ↓reduceIte, Int.reduceEq, decide_true, decide_false, Bool.true_and, Bool.false_and, Bool.and_false, Bool.and_true, Bool.not_true, Bool.not_false]))
        repeat (first | rw [kz_o] | rw [kz_r0] | simp -dsimp -implicitDefEqProofs only [go_sem, Nat.reduceBEq, Nat.reduceAdd, Nat.reduceLeDiff, Nat.reduceMul, Int.reduceLE, Int.reduceLT, Int.reduceBEq, h1, h2, h3, h4, s0d, w0d, p1, h6, h8, h9, h10])
        have hok := (show sOkB c = true from (by first | (simp only [sOkB, emptyT_def, h1, h2, h4, s0d, w0d, h6, ↓reduceIte, Int.reduceEq, decide_true, decide_false, Bool.true_and, Bool.false_and, Bool.and_false, Bool.and_true, Bool.not_true, Bool.not_false]; done) | (simp only [sOkB, emptyT_def, h1, h2, h4, s0d, w0d, h6, ↓reduceIte, Int.reduceEq, decide_true, decide_false, Bool.true_and, Bool.false_and, Bool.and_false, Bool.and_true, Bool.not_true, Bool.not_false]; simp only [h3, p1, h8, h9, h10, ↓reduceIte, Int.reduceEq, decide_true, decide_false, Bool.true_and, Bool.false_and, Bool.and_false, Bool.and_true, Bool.not_true, Bool.not_false])))
        have hok2 := sOk_eq.trans hok
        have hR := good hok
        obtain ⟨ht, hc⟩ := ask1 hok2 p1
        obtain ⟨hs0, hs1, hl, hz⟩ := cfg_facts hc
        obtain ⟨sd, hsd⟩ := Int.eq_ofNat_of_zero_le hs0
        have hst := shortT_size c.text
        have hvs := varT_size sd
        refine dq_intro [(0, []), (1, []), (2, []), (5, []), (6, []), (7, []), (10, []), (11, []), (12, []), (15, []), (16, []), (17, []), (20, []), (21, []), (22, []), (23, []), (3, [7, 12, 17, 22]), (4, []), (8, [12, 17, 22]), (9, []), (13, [17, 22]), (14, []), (18, [22]), (19, []), (24, []), (25, []), (26, [])] (by kernel_rfl) ?_
        repeat (first | rw [kz_o] | rw [kz_r0] | simp -dsimp -implicitDefEqProofs only [go_sem, Nat.reduceBEq, Nat.reduceAdd, Nat.reduceLeDiff, Nat.reduceMul, Int.reduceLE, Int.reduceLT, Int.reduceBEq, h1, h2, h3, h4, s0d, w0d, p1, h6, h8, h9, h10, hsd])
        refine pw_intro (l24Short_ok (by omega)) ?_
        rintro _ n3 hn3 rfl
        rw [kz_r]
        refine ⟨by simp -dsimp -implicitDefEqProofs only [go_sem, Nat.reduceBEq, Nat.reduceAdd, Nat.reduceLeDiff, Nat.reduceMul, Int.reduceLE, Int.reduceLT, Int.reduceBEq, h1, h2, h3, h4, s0d, w0d, p1, h6, h8, h9, h10, hsd], ?_⟩
        have a1 : (((byteT 1).size + (shortT c.text).size : Nat) : Int) ≤ 9223372036854775807 := by rw [byteT_size]; omega
        repeat (first | rw [kz_o] | rw [kz_r0] | simp -dsimp -implicitDefEqProofs only [go_sem, Nat.reduceBEq, Nat.reduceAdd, Nat.reduceLeDiff, Nat.reduceMul, Int.reduceLE, Int.reduceLT, Int.reduceBEq, h1, h2, h3, h4, s0d, w0d, p1, h6, h8, h9, h10, hsd, a1])
        refine pw_intro l24Byte_ok ?_
        rintro _ n4 hn4 rfl
        rw [kz_r]
        refine ⟨by simp -dsimp -implicitDefEqProofs only [go_sem, Nat.reduceBEq, Nat.reduceAdd, Nat.reduceLeDiff, Nat.reduceMul, Int.reduceLE, Int.reduceLT, Int.reduceBEq, h1, h2, h3, h4, s0d, w0d, p1, h6, h8, h9, h10, hsd, a1], ?_⟩
        have a2 : (((byteT 1 ++ shortT c.text).size + (byteT c.config.top).size : Nat) : Int) ≤ 9223372036854775807 := by simp only [ByteArray.size_append, byteT_size]; omega
        repeat (first | rw [kz_o] | rw [kz_r0] | simp -dsimp -implicitDefEqProofs only [go_sem, Nat.reduceBEq, Nat.reduceAdd, Nat.reduceLeDiff, Nat.reduceMul, Int.reduceLE, Int.reduceLT, Int.reduceBEq, h1, h2, h3, h4, s0d, w0d, p1, h6, h8, h9, h10, hsd, a1, a2])
        refine pw_intro (l01Var_ok (by omega)) ?_
        rintro _ n5 hn5 rfl
        rw [kz_r]
        refine ⟨by simp -dsimp -implicitDefEqProofs only [go_sem, Nat.reduceBEq, Nat.reduceAdd, Nat.reduceLeDiff, Nat.reduceMul, Int.reduceLE, Int.reduceLT, Int.reduceBEq, h1, h2, h3, h4, s0d, w0d, p1, h6, h8, h9, h10, hsd, a1], ?_⟩
        have a3 : ((((byteT 1 ++ shortT c.text) ++ byteT c.config.top).size + (varT sd).size : Nat) : Int) ≤ 9223372036854775807 := by simp only [ByteArray.size_append, byteT_size]; omega
        repeat (first | rw [kz_o] | rw [kz_r0] | simp -dsimp -implicitDefEqProofs only [go_sem, Nat.reduceBEq, Nat.reduceAdd, Nat.reduceLeDiff, Nat.reduceMul, Int.reduceLE, Int.reduceLT, Int.reduceBEq, h1, h2, h3, h4, s0d, w0d, p1, h6, h8, h9, h10, hsd, a1, a2, a3])
        refine pw_intro l24Byte_ok ?_
        rintro _ n6 hn6 rfl
        rw [kz_r]
        refine ⟨by simp -dsimp -implicitDefEqProofs only [go_sem, Nat.reduceBEq, Nat.reduceAdd, Nat.reduceLeDiff, Nat.reduceMul, Int.reduceLE, Int.reduceLT, Int.reduceBEq, h1, h2, h3, h4, s0d, w0d, p1, h6, h8, h9, h10, hsd, a1], ?_⟩
        have a4 : (((((byteT 1 ++ shortT c.text) ++ byteT c.config.top) ++ varT sd).size + (byteT c.config.new).size : Nat) : Int) ≤ 9223372036854775807 := by simp only [ByteArray.size_append, byteT_size]; omega
        repeat (first | rw [kz_o] | rw [kz_r0] | simp -dsimp -implicitDefEqProofs only [go_sem, Nat.reduceBEq, Nat.reduceAdd, Nat.reduceLeDiff, Nat.reduceMul, Int.reduceLE, Int.reduceLT, Int.reduceBEq, h1, h2, h3, h4, s0d, w0d, p1, h6, h8, h9, h10, hsd, a1, a2, a3, a4])
        refine pw_intro l24Byte_ok ?_
        rintro _ n7 hn7 rfl
        rw [kz_r]
        refine ⟨by simp -dsimp -implicitDefEqProofs only [go_sem, Nat.reduceBEq, Nat.reduceAdd, Nat.reduceLeDiff, Nat.reduceMul, Int.reduceLE, Int.reduceLT, Int.reduceBEq, h1, h2, h3, h4, s0d, w0d, p1, h6, h8, h9, h10, hsd, a1], ?_⟩
        have a5 : ((((((byteT 1 ++ shortT c.text) ++ byteT c.config.top) ++ varT sd) ++ byteT c.config.new).size + (byteT c.config.stops.length).size : Nat) : Int) ≤ 9223372036854775807 := by simp only [ByteArray.size_append, byteT_size]; omega
        repeat (first | rw [kz_o] | rw [kz_r0] | simp -dsimp -implicitDefEqProofs only [go_sem, Nat.reduceBEq, Nat.reduceAdd, Nat.reduceLeDiff, Nat.reduceMul, Int.reduceLE, Int.reduceLT, Int.reduceBEq, h1, h2, h3, h4, s0d, w0d, p1, h6, h8, h9, h10, hsd, a1, a2, a3, a4, a5])
        have hT : askT c = c.config.stops.foldl (fun s x => s ++ shortT x) (((((byteT 1 ++ shortT c.text) ++ byteT c.config.top) ++ varT sd) ++ byteT c.config.new) ++ byteT c.config.stops.length) := by
          rw [askT, if_pos p1, hsd, Int.toNat_natCast]; simp only [ByteArray.append_assoc]
        have hB : (((((byteT 1 ++ shortT c.text) ++ byteT c.config.top) ++ varT sd) ++ byteT c.config.new) ++ byteT c.config.stops.length).size ≤ 1000001000 := by simp only [ByteArray.size_append, byteT_size]; omega
        generalize hb0 : ((((byteT 1 ++ shortT c.text) ++ byteT c.config.top) ++ varT sd) ++ byteT c.config.new) ++ byteT c.config.stops.length = base at hT hB ⊢
        refine lz_keep [1] (fun m e h' => h.le h' ∧ hg h' (hn h .mk) .mk = some ⟨8, xAsk F c⟩ ∧ ∃ (k : Nat) (s : ByteArray), look e 6 .mk = .raw (.int .i64 k) ∧ look e 4 .mk = .raw (.string s) ∧ m + k = c.config.stops.length ∧ s = (c.config.stops.take k).foldl (fun s x => s ++ shortT x) base ∧ s.size ≤ base.size + k * 1000) c.config.stops.length ?_ ?_
        · exact ⟨by repeat (first | exact H2.le.refl _ | apply le_push | refine le_up ?_ (by assumption) | refine le_up ?_ (by simp only [hn_up, hn_push] at *; omega)), by simp -dsimp -implicitDefEqProofs only [go_sem, Nat.reduceBEq, Nat.reduceAdd, Nat.reduceLeDiff, Nat.reduceMul, Int.reduceLE, Int.reduceLT, Int.reduceBEq, h1, h2, h3, h4, s0d, w0d, p1, h6, h8, h9, h10, hsd], 0, base, by simp -dsimp -implicitDefEqProofs only [go_sem, Nat.reduceBEq, Nat.reduceAdd, Nat.reduceLeDiff, Nat.reduceMul, Int.reduceLE, Int.reduceLT, Int.reduceBEq], by simp -dsimp -implicitDefEqProofs only [go_sem, Nat.reduceBEq, Nat.reduceAdd, Nat.reduceLeDiff, Nat.reduceMul, Int.reduceLE, Int.reduceLT, Int.reduceBEq, hb0], by omega, rfl, by omega⟩
        · rintro m e h' hks ⟨hle, hrow, k, s, e6, e4, hk, hs, hsz⟩
          simp -dsimp -implicitDefEqProofs only [go_sem, Nat.reduceBEq, Nat.reduceAdd, Nat.reduceLeDiff, Nat.reduceMul, Int.reduceLE, Int.reduceLT, Int.reduceBEq] at hks
          repeat (first | rw [kz_o] | rw [kz_r0] | simp -dsimp -implicitDefEqProofs only [go_sem, Nat.reduceBEq, Nat.reduceAdd, Nat.reduceLeDiff, Nat.reduceMul, Int.reduceLE, Int.reduceLT, Int.reduceBEq, hks, hrow, e6, e4])
          refine gz_dec (fun h2 => ?_) (fun h2 => ?_)
          · have h3 : k < c.config.stops.length := by omega
            have h8 := hz k h3
            have h9 := shortT_size (c.config.stops.getD k default)
            repeat (first | rw [kz_o] | rw [kz_r0] | simp -dsimp -implicitDefEqProofs only [go_sem, Nat.reduceBEq, Nat.reduceAdd, Nat.reduceLeDiff, Nat.reduceMul, Int.reduceLE, Int.reduceLT, Int.reduceBEq, hks, hrow, e6, e4, h3])
            refine pw_intro (l24Short_ok (by omega)) ?_
            rintro _ n8 hn8 rfl
            have a6 : ((s.size + (shortT (c.config.stops.getD k default)).size : Nat) : Int) ≤ 9223372036854775807 := by omega
            repeat (first | rw [kz_o] | rw [kz_r0] | simp -dsimp -implicitDefEqProofs only [go_sem, Nat.reduceBEq, Nat.reduceAdd, Nat.reduceLeDiff, Nat.reduceMul, Int.reduceLE, Int.reduceLT, Int.reduceBEq, hks, hrow, e6, e4, h3, a6, wrap_succ h3 hf2])
            exact nx_keep (m - 1) (by omega) (by simp -dsimp -implicitDefEqProofs only [go_sem, Nat.reduceBEq, Nat.reduceAdd, Nat.reduceLeDiff, Nat.reduceMul, Int.reduceLE, Int.reduceLT, Int.reduceBEq, hks]) ⟨le_up hle hn8, hrow, k + 1, s ++ shortT (c.config.stops.getD k default), by simp -dsimp -implicitDefEqProofs only [go_sem, Nat.reduceBEq, Nat.reduceAdd, Nat.reduceLeDiff, Nat.reduceMul, Int.reduceLE, Int.reduceLT, Int.reduceBEq], by simp -dsimp -implicitDefEqProofs only [go_sem, Nat.reduceBEq, Nat.reduceAdd, Nat.reduceLeDiff, Nat.reduceMul, Int.reduceLE, Int.reduceLT, Int.reduceBEq], by omega, by rw [foldl_take h3, ← hs], by rw [ByteArray.size_append]; omega⟩
          · repeat (first | rw [kz_o] | rw [kz_r0] | simp -dsimp -implicitDefEqProofs only [go_sem, Nat.reduceBEq, Nat.reduceAdd, Nat.reduceLeDiff, Nat.reduceMul, Int.reduceLE, Int.reduceLT, Int.reduceBEq, hks, hrow, e6, e4])
            exact fin _ _ _ hle (by rw [hR, hT, hs, foldl_all (by omega)])
      repeat (first | rw [kz_o] | rw [kz_r0] | simp -dsimp -implicitDefEqProofs only [go_sem, Nat.reduceBEq, Nat.reduceAdd, Nat.reduceLeDiff, Nat.reduceMul, Int.reduceLE, Int.reduceLT, Int.reduceBEq, h1, h2, h3, h4, s0d, w0d, p1])
      refine gz_dec (fun p2 => ?_) (fun p2 => ?_)
      · repeat (first | rw [kz_o] | rw [kz_r0] | simp -dsimp -implicitDefEqProofs only [go_sem, Nat.reduceBEq, Nat.reduceAdd, Nat.reduceLeDiff, Nat.reduceMul, Int.reduceLE, Int.reduceLT, Int.reduceBEq, h1, h2, h3, h4, s0d, w0d, p1, p2])
        refine gz_intro (fun h11 => ?_) (fun h11 => ?_)
        rotate_left
        · try simp only [Bool.not_not, Bool.not_eq_true', Bool.not_eq_false'] at h11
          repeat (first | rw [kz_o] | rw [kz_r0] | simp -dsimp -implicitDefEqProofs only [go_sem, Nat.reduceBEq, Nat.reduceAdd, Nat.reduceLeDiff, Nat.reduceMul, Int.reduceLE, Int.reduceLT, Int.reduceBEq, h1, h2, h3, h4, s0d, w0d, p1, p2, h11])
          exact bad _ (by repeat (first | exact H2.le.refl _ | apply le_push | refine le_up ?_ (by assumption) | refine le_up ?_ (by simp only [hn_up, hn_push] at *; omega))) (by first | (simp only [sOkB, emptyT_def, h1, h2, h4, s0d, w0d, h11, ↓reduceIte, Int.reduceEq, decide_true, decide_false, Bool.true_and, Bool.false_and, Bool.and_false, Bool.and_true, Bool.not_true, Bool.not_false]; done) | (simp only [sOkB, emptyT_def, h1, h2, h4, s0d, w0d, h11, ↓reduceIte, Int.reduceEq, decide_true, decide_false, Bool.true_and, Bool.false_and, Bool.and_false, Bool.and_true, Bool.not_true, Bool.not_false]; simp only [h3, p1, p2, ↓reduceIte, Int.reduceEq, decide_true, decide_false, Bool.true_and, Bool.false_and, Bool.and_false, Bool.and_true, Bool.not_true, Bool.not_false]))
        try simp only [Bool.not_not, Bool.not_eq_true', Bool.not_eq_false'] at h11
        repeat (first | rw [kz_o] | rw [kz_r0] | simp -dsimp -implicitDefEqProofs only [go_sem, Nat.reduceBEq, Nat.reduceAdd, Nat.reduceLeDiff, Nat.reduceMul, Int.reduceLE, Int.reduceLT, Int.reduceBEq, h1, h2, h3, h4, s0d, w0d, p1, p2, h11])
        refine gz_ndec (fun h12 => ?_) (fun h12 => ?_)
        rotate_left
        · repeat (first | rw [kz_o] | rw [kz_r0] | simp -dsimp -implicitDefEqProofs only [go_sem, Nat.reduceBEq, Nat.reduceAdd, Nat.reduceLeDiff, Nat.reduceMul, Int.reduceLE, Int.reduceLT, Int.reduceBEq, h1, h2, h3, h4, s0d, w0d, p1, p2, h11, h12])
          exact bad _ (by repeat (first | exact H2.le.refl _ | apply le_push | refine le_up ?_ (by assumption) | refine le_up ?_ (by simp only [hn_up, hn_push] at *; omega))) (by first | (simp only [sOkB, emptyT_def, h1, h2, h4, s0d, w0d, h11, ↓reduceIte, Int.reduceEq, decide_true, decide_false, Bool.true_and, Bool.false_and, Bool.and_false, Bool.and_true, Bool.not_true, Bool.not_false]; done) | (simp only [sOkB, emptyT_def, h1, h2, h4, s0d, w0d, h11, ↓reduceIte, Int.reduceEq, decide_true, decide_false, Bool.true_and, Bool.false_and, Bool.and_false, Bool.and_true, Bool.not_true, Bool.not_false]; simp only [h3, p1, p2, h12, ↓reduceIte, Int.reduceEq, decide_true, decide_false, Bool.true_and, Bool.false_and, Bool.and_false, Bool.and_true, Bool.not_true, Bool.not_false]))
        repeat (first | rw [kz_o] | rw [kz_r0] | simp -dsimp -implicitDefEqProofs only [go_sem, Nat.reduceBEq, Nat.reduceAdd, Nat.reduceLeDiff, Nat.reduceMul, Int.reduceLE, Int.reduceLT, Int.reduceBEq, h1, h2, h3, h4, s0d, w0d, p1, p2, h11, h12])
        refine pw_intro (l24Bare_ok (F := fun j => F (j + 3)) (c := c.config)) ?_
        rintro _ n14 hn14 rfl
        cases h13 : bareB c.config
        · repeat (first | rw [kz_o] | rw [kz_r0] | simp -dsimp -implicitDefEqProofs only [go_sem, Nat.reduceBEq, Nat.reduceAdd, Nat.reduceLeDiff, Nat.reduceMul, Int.reduceLE, Int.reduceLT, Int.reduceBEq, h1, h2, h3, h4, s0d, w0d, p1, p2, h11, h12])
          exact bad _ (by repeat (first | exact H2.le.refl _ | apply le_push | refine le_up ?_ (by assumption) | refine le_up ?_ (by simp only [hn_up, hn_push] at *; omega))) (by first | (simp only [sOkB, emptyT_def, h1, h2, h4, s0d, w0d, h11, h13, ↓reduceIte, Int.reduceEq, decide_true, decide_false, Bool.true_and, Bool.false_and, Bool.and_false, Bool.and_true, Bool.not_true, Bool.not_false]; done) | (simp only [sOkB, emptyT_def, h1, h2, h4, s0d, w0d, h11, h13, ↓reduceIte, Int.reduceEq, decide_true, decide_false, Bool.true_and, Bool.false_and, Bool.and_false, Bool.and_true, Bool.not_true, Bool.not_false]; simp only [h3, p1, p2, h12, ↓reduceIte, Int.reduceEq, decide_true, decide_false, Bool.true_and, Bool.false_and, Bool.and_false, Bool.and_true, Bool.not_true, Bool.not_false]))
        repeat (first | rw [kz_o] | rw [kz_r0] | simp -dsimp -implicitDefEqProofs only [go_sem, Nat.reduceBEq, Nat.reduceAdd, Nat.reduceLeDiff, Nat.reduceMul, Int.reduceLE, Int.reduceLT, Int.reduceBEq, h1, h2, h3, h4, s0d, w0d, p1, p2, h11, h12])
        refine wz_intro l01In_ok ?_
        rintro _ h' ⟨rfl, rfl⟩
        cases h15 : inI c.config.seed 0 1000000000
        · repeat (first | rw [kz_o] | rw [kz_r0] | simp -dsimp -implicitDefEqProofs only [go_sem, Nat.reduceBEq, Nat.reduceAdd, Nat.reduceLeDiff, Nat.reduceMul, Int.reduceLE, Int.reduceLT, Int.reduceBEq, h1, h2, h3, h4, s0d, w0d, p1, p2, h11, h12, h13])
          exact bad _ (by repeat (first | exact H2.le.refl _ | apply le_push | refine le_up ?_ (by assumption) | refine le_up ?_ (by simp only [hn_up, hn_push] at *; omega))) (by first | (simp only [sOkB, emptyT_def, h1, h2, h4, s0d, w0d, h11, h13, h15, ↓reduceIte, Int.reduceEq, decide_true, decide_false, Bool.true_and, Bool.false_and, Bool.and_false, Bool.and_true, Bool.not_true, Bool.not_false]; done) | (simp only [sOkB, emptyT_def, h1, h2, h4, s0d, w0d, h11, h13, h15, ↓reduceIte, Int.reduceEq, decide_true, decide_false, Bool.true_and, Bool.false_and, Bool.and_false, Bool.and_true, Bool.not_true, Bool.not_false]; simp only [h3, p1, p2, h12, ↓reduceIte, Int.reduceEq, decide_true, decide_false, Bool.true_and, Bool.false_and, Bool.and_false, Bool.and_true, Bool.not_true, Bool.not_false]))
        repeat (first | rw [kz_o] | rw [kz_r0] | simp -dsimp -implicitDefEqProofs only [go_sem, Nat.reduceBEq, Nat.reduceAdd, Nat.reduceLeDiff, Nat.reduceMul, Int.reduceLE, Int.reduceLT, Int.reduceBEq, h1, h2, h3, h4, s0d, w0d, p1, p2, h11, h12, h13])
        refine wz_intro l01In_ok ?_
        rintro _ h' ⟨rfl, rfl⟩
        cases h16 : inI c.config.new 1 24
        · repeat (first | rw [kz_o] | rw [kz_r0] | simp -dsimp -implicitDefEqProofs only [go_sem, Nat.reduceBEq, Nat.reduceAdd, Nat.reduceLeDiff, Nat.reduceMul, Int.reduceLE, Int.reduceLT, Int.reduceBEq, h1, h2, h3, h4, s0d, w0d, p1, p2, h11, h12, h13, h15])
          exact bad _ (by repeat (first | exact H2.le.refl _ | apply le_push | refine le_up ?_ (by assumption) | refine le_up ?_ (by simp only [hn_up, hn_push] at *; omega))) (by first | (simp only [sOkB, emptyT_def, h1, h2, h4, s0d, w0d, h11, h13, h15, h16, ↓reduceIte, Int.reduceEq, decide_true, decide_false, Bool.true_and, Bool.false_and, Bool.and_false, Bool.and_true, Bool.not_true, Bool.not_false]; done) | (simp only [sOkB, emptyT_def, h1, h2, h4, s0d, w0d, h11, h13, h15, h16, ↓reduceIte, Int.reduceEq, decide_true, decide_false, Bool.true_and, Bool.false_and, Bool.and_false, Bool.and_true, Bool.not_true, Bool.not_false]; simp only [h3, p1, p2, h12, ↓reduceIte, Int.reduceEq, decide_true, decide_false, Bool.true_and, Bool.false_and, Bool.and_false, Bool.and_true, Bool.not_true, Bool.not_false]))
        repeat (first | rw [kz_o] | rw [kz_r0] | simp -dsimp -implicitDefEqProofs only [go_sem, Nat.reduceBEq, Nat.reduceAdd, Nat.reduceLeDiff, Nat.reduceMul, Int.reduceLE, Int.reduceLT, Int.reduceBEq, h1, h2, h3, h4, s0d, w0d, p1, p2, h11, h12, h13, h15])
        have hok := (show sOkB c = true from (by first | (simp only [sOkB, emptyT_def, h1, h2, h4, s0d, w0d, h11, h13, h15, h16, ↓reduceIte, Int.reduceEq, decide_true, decide_false, Bool.true_and, Bool.false_and, Bool.and_false, Bool.and_true, Bool.not_true, Bool.not_false]; done) | (simp only [sOkB, emptyT_def, h1, h2, h4, s0d, w0d, h11, h13, h15, h16, ↓reduceIte, Int.reduceEq, decide_true, decide_false, Bool.true_and, Bool.false_and, Bool.and_false, Bool.and_true, Bool.not_true, Bool.not_false]; simp only [h3, p1, p2, h12, ↓reduceIte, Int.reduceEq, decide_true, decide_false, Bool.true_and, Bool.false_and, Bool.and_false, Bool.and_true, Bool.not_true, Bool.not_false])))
        have hok2 := sOk_eq.trans hok
        have hR := good hok
        obtain ⟨hs0, hs1⟩ := ask2 hok2 p2
        obtain ⟨sd, hsd⟩ := Int.eq_ofNat_of_zero_le hs0
        have hvs := varT_size sd
        refine dq_intro [(0, []), (1, []), (2, []), (5, []), (6, []), (7, []), (10, []), (11, []), (12, []), (3, [7, 12]), (4, []), (8, [12]), (9, []), (13, []), (14, []), (15, []), (16, [])] (by kernel_rfl) ?_
        repeat (first | rw [kz_o] | rw [kz_r0] | simp -dsimp -implicitDefEqProofs only [go_sem, Nat.reduceBEq, Nat.reduceAdd, Nat.reduceLeDiff, Nat.reduceMul, Int.reduceLE, Int.reduceLT, Int.reduceBEq, h1, h2, h3, h4, s0d, w0d, p1, p2, h11, h12, h13, h15, h16, hsd])
        refine pw_intro l24Byte_ok ?_
        rintro _ n3 hn3 rfl
        rw [kz_r]
        refine ⟨by simp -dsimp -implicitDefEqProofs only [go_sem, Nat.reduceBEq, Nat.reduceAdd, Nat.reduceLeDiff, Nat.reduceMul, Int.reduceLE, Int.reduceLT, Int.reduceBEq, h1, h2, h3, h4, s0d, w0d, p1, p2, h11, h12, h13, h15, h16, hsd], ?_⟩
        have a1 : (((byteT 2).size + (byteT c.pos).size : Nat) : Int) ≤ 9223372036854775807 := by simp only [byteT_size]; omega
        repeat (first | rw [kz_o] | rw [kz_r0] | simp -dsimp -implicitDefEqProofs only [go_sem, Nat.reduceBEq, Nat.reduceAdd, Nat.reduceLeDiff, Nat.reduceMul, Int.reduceLE, Int.reduceLT, Int.reduceBEq, h1, h2, h3, h4, s0d, w0d, p1, p2, h11, h12, h13, h15, h16, hsd, a1])
        refine pw_intro (l01Var_ok (by omega)) ?_
        rintro _ n4 hn4 rfl
        rw [kz_r]
        refine ⟨by simp -dsimp -implicitDefEqProofs only [go_sem, Nat.reduceBEq, Nat.reduceAdd, Nat.reduceLeDiff, Nat.reduceMul, Int.reduceLE, Int.reduceLT, Int.reduceBEq, h1, h2, h3, h4, s0d, w0d, p1, p2, h11, h12, h13, h15, h16, hsd], ?_⟩
        have a2 : (((byteT 2 ++ byteT c.pos).size + (varT sd).size : Nat) : Int) ≤ 9223372036854775807 := by simp only [ByteArray.size_append, byteT_size]; omega
        repeat (first | rw [kz_o] | rw [kz_r0] | simp -dsimp -implicitDefEqProofs only [go_sem, Nat.reduceBEq, Nat.reduceAdd, Nat.reduceLeDiff, Nat.reduceMul, Int.reduceLE, Int.reduceLT, Int.reduceBEq, h1, h2, h3, h4, s0d, w0d, p1, p2, h11, h12, h13, h15, h16, hsd, a1, a2])
        refine pw_intro l24Byte_ok ?_
        rintro _ n5 hn5 rfl
        rw [kz_r]
        refine ⟨by simp -dsimp -implicitDefEqProofs only [go_sem, Nat.reduceBEq, Nat.reduceAdd, Nat.reduceLeDiff, Nat.reduceMul, Int.reduceLE, Int.reduceLT, Int.reduceBEq, h1, h2, h3, h4, s0d, w0d, p1, p2, h11, h12, h13, h15, h16, hsd], ?_⟩
        have a3 : ((((byteT 2 ++ byteT c.pos) ++ varT sd).size + (byteT c.config.new).size : Nat) : Int) ≤ 9223372036854775807 := by simp only [ByteArray.size_append, byteT_size]; omega
        repeat (first | rw [kz_o] | rw [kz_r0] | simp -dsimp -implicitDefEqProofs only [go_sem, Nat.reduceBEq, Nat.reduceAdd, Nat.reduceLeDiff, Nat.reduceMul, Int.reduceLE, Int.reduceLT, Int.reduceBEq, h1, h2, h3, h4, s0d, w0d, p1, p2, h11, h12, h13, h15, h16, hsd, a1, a2, a3])
        exact fin _ _ _ (by repeat (first | exact H2.le.refl _ | apply le_push | refine le_up ?_ (by assumption) | refine le_up ?_ (by simp only [hn_up, hn_push] at *; omega))) (by rw [hR, askT, if_neg p1, if_pos p2, hsd, Int.toNat_natCast]; simp only [ByteArray.append_assoc])
      repeat (first | rw [kz_o] | rw [kz_r0] | simp -dsimp -implicitDefEqProofs only [go_sem, Nat.reduceBEq, Nat.reduceAdd, Nat.reduceLeDiff, Nat.reduceMul, Int.reduceLE, Int.reduceLT, Int.reduceBEq, h1, h2, h3, h4, s0d, w0d, p1, p2])
      refine gz_dec (fun p5 => ?_) (fun p5 => ?_)
      · repeat (first | rw [kz_o] | rw [kz_r0] | simp -dsimp -implicitDefEqProofs only [go_sem, Nat.reduceBEq, Nat.reduceAdd, Nat.reduceLeDiff, Nat.reduceMul, Int.reduceLE, Int.reduceLT, Int.reduceBEq, h1, h2, h3, h4, s0d, w0d, p1, p2, p5])
        refine gz_intro (fun h17 => ?_) (fun h17 => ?_)
        rotate_left
        · try simp only [Bool.not_not, Bool.not_eq_true', Bool.not_eq_false'] at h17
          repeat (first | rw [kz_o] | rw [kz_r0] | simp -dsimp -implicitDefEqProofs only [go_sem, Nat.reduceBEq, Nat.reduceAdd, Nat.reduceLeDiff, Nat.reduceMul, Int.reduceLE, Int.reduceLT, Int.reduceBEq, h1, h2, h3, h4, s0d, w0d, p1, p2, p5, h17])
          exact bad _ (by repeat (first | exact H2.le.refl _ | apply le_push | refine le_up ?_ (by assumption) | refine le_up ?_ (by simp only [hn_up, hn_push] at *; omega))) (by first | (simp only [sOkB, emptyT_def, h1, h2, h4, s0d, w0d, h17, ↓reduceIte, Int.reduceEq, decide_true, decide_false, Bool.true_and, Bool.false_and, Bool.and_false, Bool.and_true, Bool.not_true, Bool.not_false]; done) | (simp only [sOkB, emptyT_def, h1, h2, h4, s0d, w0d, h17, ↓reduceIte, Int.reduceEq, decide_true, decide_false, Bool.true_and, Bool.false_and, Bool.and_false, Bool.and_true, Bool.not_true, Bool.not_false]; simp only [h3, p1, p2, p5, ↓reduceIte, Int.reduceEq, decide_true, decide_false, Bool.true_and, Bool.false_and, Bool.and_false, Bool.and_true, Bool.not_true, Bool.not_false]))
        try simp only [Bool.not_not, Bool.not_eq_true', Bool.not_eq_false'] at h17
        repeat (first | rw [kz_o] | rw [kz_r0] | simp -dsimp -implicitDefEqProofs only [go_sem, Nat.reduceBEq, Nat.reduceAdd, Nat.reduceLeDiff, Nat.reduceMul, Int.reduceLE, Int.reduceLT, Int.reduceBEq, h1, h2, h3, h4, s0d, w0d, p1, p2, p5, h17])
        refine gz_ndec (fun h18 => ?_) (fun h18 => ?_)
        rotate_left
        · repeat (first | rw [kz_o] | rw [kz_r0] | simp -dsimp -implicitDefEqProofs only [go_sem, Nat.reduceBEq, Nat.reduceAdd, Nat.reduceLeDiff, Nat.reduceMul, Int.reduceLE, Int.reduceLT, Int.reduceBEq, h1, h2, h3, h4, s0d, w0d, p1, p2, p5, h17, h18])
          exact bad _ (by repeat (first | exact H2.le.refl _ | apply le_push | refine le_up ?_ (by assumption) | refine le_up ?_ (by simp only [hn_up, hn_push] at *; omega))) (by first | (simp only [sOkB, emptyT_def, h1, h2, h4, s0d, w0d, h17, ↓reduceIte, Int.reduceEq, decide_true, decide_false, Bool.true_and, Bool.false_and, Bool.and_false, Bool.and_true, Bool.not_true, Bool.not_false]; done) | (simp only [sOkB, emptyT_def, h1, h2, h4, s0d, w0d, h17, ↓reduceIte, Int.reduceEq, decide_true, decide_false, Bool.true_and, Bool.false_and, Bool.and_false, Bool.and_true, Bool.not_true, Bool.not_false]; simp only [h3, p1, p2, p5, h18, ↓reduceIte, Int.reduceEq, decide_true, decide_false, Bool.true_and, Bool.false_and, Bool.and_false, Bool.and_true, Bool.not_true, Bool.not_false]))
        replace h18 := Decidable.not_not.1 h18
        repeat (first | rw [kz_o] | rw [kz_r0] | simp -dsimp -implicitDefEqProofs only [go_sem, Nat.reduceBEq, Nat.reduceAdd, Nat.reduceLeDiff, Nat.reduceMul, Int.reduceLE, Int.reduceLT, Int.reduceBEq, h1, h2, h3, h4, s0d, w0d, p1, p2, p5, h17, h18])
        refine pw_intro (l24Bare_ok (F := fun j => F (j + 3)) (c := c.config)) ?_
        rintro _ n20 hn20 rfl
        cases h19 : bareB c.config
        · repeat (first | rw [kz_o] | rw [kz_r0] | simp -dsimp -implicitDefEqProofs only [go_sem, Nat.reduceBEq, Nat.reduceAdd, Nat.reduceLeDiff, Nat.reduceMul, Int.reduceLE, Int.reduceLT, Int.reduceBEq, h1, h2, h3, h4, s0d, w0d, p1, p2, p5, h17, h18])
          exact bad _ (by repeat (first | exact H2.le.refl _ | apply le_push | refine le_up ?_ (by assumption) | refine le_up ?_ (by simp only [hn_up, hn_push] at *; omega))) (by first | (simp only [sOkB, emptyT_def, h1, h2, h4, s0d, w0d, h17, h19, ↓reduceIte, Int.reduceEq, decide_true, decide_false, Bool.true_and, Bool.false_and, Bool.and_false, Bool.and_true, Bool.not_true, Bool.not_false]; done) | (simp only [sOkB, emptyT_def, h1, h2, h4, s0d, w0d, h17, h19, ↓reduceIte, Int.reduceEq, decide_true, decide_false, Bool.true_and, Bool.false_and, Bool.and_false, Bool.and_true, Bool.not_true, Bool.not_false]; simp only [h3, p1, p2, p5, h18, ↓reduceIte, Int.reduceEq, decide_true, decide_false, Bool.true_and, Bool.false_and, Bool.and_false, Bool.and_true, Bool.not_true, Bool.not_false]))
        repeat (first | rw [kz_o] | rw [kz_r0] | simp -dsimp -implicitDefEqProofs only [go_sem, Nat.reduceBEq, Nat.reduceAdd, Nat.reduceLeDiff, Nat.reduceMul, Int.reduceLE, Int.reduceLT, Int.reduceBEq, h1, h2, h3, h4, s0d, w0d, p1, p2, p5, h17, h18])
        have hok := (show sOkB c = true from (by first | (simp only [sOkB, emptyT_def, h1, h2, h4, s0d, w0d, h17, h19, numB, ↓reduceIte, Int.reduceEq, decide_true, decide_false, Bool.true_and, Bool.false_and, Bool.and_false, Bool.and_true, Bool.not_true, Bool.not_false]; done) | (simp only [sOkB, emptyT_def, h1, h2, h4, s0d, w0d, h17, h19, numB, ↓reduceIte, Int.reduceEq, decide_true, decide_false, Bool.true_and, Bool.false_and, Bool.and_false, Bool.and_true, Bool.not_true, Bool.not_false]; simp only [h3, p1, p2, p5, h18, ↓reduceIte, Int.reduceEq, decide_true, decide_false, Bool.true_and, Bool.false_and, Bool.and_false, Bool.and_true, Bool.not_true, Bool.not_false])))
        have hok2 := sOk_eq.trans hok
        have hR := good hok
        have hl := ask5 hok2 p5
        refine pw_intro l24Byte_ok ?_
        rintro _ n3 hn3 rfl
        have a1 : (((byteT 5).size + (byteT c.picks.length).size : Nat) : Int) ≤ 9223372036854775807 := by simp only [byteT_size]; omega
        repeat (first | rw [kz_o] | rw [kz_r0] | simp -dsimp -implicitDefEqProofs only [go_sem, Nat.reduceBEq, Nat.reduceAdd, Nat.reduceLeDiff, Nat.reduceMul, Int.reduceLE, Int.reduceLT, Int.reduceBEq, h1, h2, h3, h4, s0d, w0d, p1, p2, p5, h17, h18, h19, a1])
        have hT : askT c = c.picks.foldl (fun s n => s ++ byteT n) (byteT 5 ++ byteT c.picks.length) := by rw [askT, if_neg p1, if_neg p2, if_pos p5]
        have hB : (byteT 5 ++ byteT c.picks.length).size = 2 := rfl
        generalize hb0 : byteT 5 ++ byteT c.picks.length = base at hT hB ⊢
        refine lz_keep [1] (fun m e h' => h.le h' ∧ hg h' (hn h .mk) .mk = some ⟨8, xAsk F c⟩ ∧ ∃ (k : Nat) (s : ByteArray), look e 7 .mk = .raw (.int .i64 k) ∧ look e 4 .mk = .raw (.string s) ∧ m + k = c.picks.length ∧ s = (c.picks.take k).foldl (fun s n => s ++ byteT n) base ∧ s.size = 2 + k) c.picks.length ?_ ?_
        · exact ⟨by repeat (first | exact H2.le.refl _ | apply le_push | refine le_up ?_ (by assumption) | refine le_up ?_ (by simp only [hn_up, hn_push] at *; omega)), by simp -dsimp -implicitDefEqProofs only [go_sem, Nat.reduceBEq, Nat.reduceAdd, Nat.reduceLeDiff, Nat.reduceMul, Int.reduceLE, Int.reduceLT, Int.reduceBEq, h1, h2, h3, h4, s0d, w0d, p1, p2, p5, h17, h18, h19], 0, base, by simp -dsimp -implicitDefEqProofs only [go_sem, Nat.reduceBEq, Nat.reduceAdd, Nat.reduceLeDiff, Nat.reduceMul, Int.reduceLE, Int.reduceLT, Int.reduceBEq], by simp -dsimp -implicitDefEqProofs only [go_sem, Nat.reduceBEq, Nat.reduceAdd, Nat.reduceLeDiff, Nat.reduceMul, Int.reduceLE, Int.reduceLT, Int.reduceBEq, hb0], by omega, rfl, by omega⟩
        · rintro m e h' hks ⟨hle, hrow, k, s, e7, e4, hk, hs, hsz⟩
          simp -dsimp -implicitDefEqProofs only [go_sem, Nat.reduceBEq, Nat.reduceAdd, Nat.reduceLeDiff, Nat.reduceMul, Int.reduceLE, Int.reduceLT, Int.reduceBEq] at hks
          repeat (first | rw [kz_o] | rw [kz_r0] | simp -dsimp -implicitDefEqProofs only [go_sem, Nat.reduceBEq, Nat.reduceAdd, Nat.reduceLeDiff, Nat.reduceMul, Int.reduceLE, Int.reduceLT, Int.reduceBEq, hks, hrow, e7, e4])
          refine gz_dec (fun h2 => ?_) (fun h2 => ?_)
          · have h3 : k < c.picks.length := by omega
            repeat (first | rw [kz_o] | rw [kz_r0] | simp -dsimp -implicitDefEqProofs only [go_sem, Nat.reduceBEq, Nat.reduceAdd, Nat.reduceLeDiff, Nat.reduceMul, Int.reduceLE, Int.reduceLT, Int.reduceBEq, hks, hrow, e7, e4, h3])
            refine pw_intro l24Byte_ok ?_
            rintro _ n8 hn8 rfl
            have a6 : ((s.size + (byteT (c.picks.getD k default)).size : Nat) : Int) ≤ 9223372036854775807 := by rw [byteT_size]; omega
            repeat (first | rw [kz_o] | rw [kz_r0] | simp -dsimp -implicitDefEqProofs only [go_sem, Nat.reduceBEq, Nat.reduceAdd, Nat.reduceLeDiff, Nat.reduceMul, Int.reduceLE, Int.reduceLT, Int.reduceBEq, hks, hrow, e7, e4, h3, a6, wrap_succ h3 hf3])
            exact nx_keep (m - 1) (by omega) (by simp -dsimp -implicitDefEqProofs only [go_sem, Nat.reduceBEq, Nat.reduceAdd, Nat.reduceLeDiff, Nat.reduceMul, Int.reduceLE, Int.reduceLT, Int.reduceBEq, hks]) ⟨le_up hle hn8, hrow, k + 1, s ++ byteT (c.picks.getD k default), by simp -dsimp -implicitDefEqProofs only [go_sem, Nat.reduceBEq, Nat.reduceAdd, Nat.reduceLeDiff, Nat.reduceMul, Int.reduceLE, Int.reduceLT, Int.reduceBEq], by simp -dsimp -implicitDefEqProofs only [go_sem, Nat.reduceBEq, Nat.reduceAdd, Nat.reduceLeDiff, Nat.reduceMul, Int.reduceLE, Int.reduceLT, Int.reduceBEq], by omega, by rw [foldl_take h3, ← hs], by rw [ByteArray.size_append, byteT_size]; omega⟩
          · repeat (first | rw [kz_o] | rw [kz_r0] | simp -dsimp -implicitDefEqProofs only [go_sem, Nat.reduceBEq, Nat.reduceAdd, Nat.reduceLeDiff, Nat.reduceMul, Int.reduceLE, Int.reduceLT, Int.reduceBEq, hks, hrow, e7, e4])
            exact fin _ _ _ hle (by rw [hR, hT, hs, foldl_all (by omega)])
      repeat (first | rw [kz_o] | rw [kz_r0] | simp -dsimp -implicitDefEqProofs only [go_sem, Nat.reduceBEq, Nat.reduceAdd, Nat.reduceLeDiff, Nat.reduceMul, Int.reduceLE, Int.reduceLT, Int.reduceBEq, h1, h2, h3, h4, s0d, w0d, p1, p2, p5])
      refine gz_intro (fun h21 => ?_) (fun h21 => ?_)
      rotate_left
      · try simp only [Bool.not_not, Bool.not_eq_true', Bool.not_eq_false'] at h21
        repeat (first | rw [kz_o] | rw [kz_r0] | simp -dsimp -implicitDefEqProofs only [go_sem, Nat.reduceBEq, Nat.reduceAdd, Nat.reduceLeDiff, Nat.reduceMul, Int.reduceLE, Int.reduceLT, Int.reduceBEq, h1, h2, h3, h4, s0d, w0d, p1, p2, p5, h21])
        exact bad _ (by repeat (first | exact H2.le.refl _ | apply le_push | refine le_up ?_ (by assumption) | refine le_up ?_ (by simp only [hn_up, hn_push] at *; omega))) (by first | (simp only [sOkB, emptyT_def, h1, h2, h4, s0d, w0d, h21, ↓reduceIte, Int.reduceEq, decide_true, decide_false, Bool.true_and, Bool.false_and, Bool.and_false, Bool.and_true, Bool.not_true, Bool.not_false]; done) | (simp only [sOkB, emptyT_def, h1, h2, h4, s0d, w0d, h21, ↓reduceIte, Int.reduceEq, decide_true, decide_false, Bool.true_and, Bool.false_and, Bool.and_false, Bool.and_true, Bool.not_true, Bool.not_false]; simp only [h3, p1, p2, p5, ↓reduceIte, Int.reduceEq, decide_true, decide_false, Bool.true_and, Bool.false_and, Bool.and_false, Bool.and_true, Bool.not_true, Bool.not_false]))
      try simp only [Bool.not_not, Bool.not_eq_true', Bool.not_eq_false'] at h21
      repeat (first | rw [kz_o] | rw [kz_r0] | simp -dsimp -implicitDefEqProofs only [go_sem, Nat.reduceBEq, Nat.reduceAdd, Nat.reduceLeDiff, Nat.reduceMul, Int.reduceLE, Int.reduceLT, Int.reduceBEq, h1, h2, h3, h4, s0d, w0d, p1, p2, p5, h21])
      refine gz_ndec (fun h22 => ?_) (fun h22 => ?_)
      rotate_left
      · repeat (first | rw [kz_o] | rw [kz_r0] | simp -dsimp -implicitDefEqProofs only [go_sem, Nat.reduceBEq, Nat.reduceAdd, Nat.reduceLeDiff, Nat.reduceMul, Int.reduceLE, Int.reduceLT, Int.reduceBEq, h1, h2, h3, h4, s0d, w0d, p1, p2, p5, h21, h22])
        exact bad _ (by repeat (first | exact H2.le.refl _ | apply le_push | refine le_up ?_ (by assumption) | refine le_up ?_ (by simp only [hn_up, hn_push] at *; omega))) (by first | (simp only [sOkB, emptyT_def, h1, h2, h4, s0d, w0d, h21, ↓reduceIte, Int.reduceEq, decide_true, decide_false, Bool.true_and, Bool.false_and, Bool.and_false, Bool.and_true, Bool.not_true, Bool.not_false]; done) | (simp only [sOkB, emptyT_def, h1, h2, h4, s0d, w0d, h21, ↓reduceIte, Int.reduceEq, decide_true, decide_false, Bool.true_and, Bool.false_and, Bool.and_false, Bool.and_true, Bool.not_true, Bool.not_false]; simp only [h3, p1, p2, p5, h22, ↓reduceIte, Int.reduceEq, decide_true, decide_false, Bool.true_and, Bool.false_and, Bool.and_false, Bool.and_true, Bool.not_true, Bool.not_false]))
      repeat (first | rw [kz_o] | rw [kz_r0] | simp -dsimp -implicitDefEqProofs only [go_sem, Nat.reduceBEq, Nat.reduceAdd, Nat.reduceLeDiff, Nat.reduceMul, Int.reduceLE, Int.reduceLT, Int.reduceBEq, h1, h2, h3, h4, s0d, w0d, p1, p2, p5, h21, h22])
      refine pw_intro (l24Bare_ok (F := fun j => F (j + 3)) (c := c.config)) ?_
      rintro _ n24 hn24 rfl
      cases h23 : bareB c.config
      · repeat (first | rw [kz_o] | rw [kz_r0] | simp -dsimp -implicitDefEqProofs only [go_sem, Nat.reduceBEq, Nat.reduceAdd, Nat.reduceLeDiff, Nat.reduceMul, Int.reduceLE, Int.reduceLT, Int.reduceBEq, h1, h2, h3, h4, s0d, w0d, p1, p2, p5, h21, h22])
        exact bad _ (by repeat (first | exact H2.le.refl _ | apply le_push | refine le_up ?_ (by assumption) | refine le_up ?_ (by simp only [hn_up, hn_push] at *; omega))) (by first | (simp only [sOkB, emptyT_def, h1, h2, h4, s0d, w0d, h21, h23, ↓reduceIte, Int.reduceEq, decide_true, decide_false, Bool.true_and, Bool.false_and, Bool.and_false, Bool.and_true, Bool.not_true, Bool.not_false]; done) | (simp only [sOkB, emptyT_def, h1, h2, h4, s0d, w0d, h21, h23, ↓reduceIte, Int.reduceEq, decide_true, decide_false, Bool.true_and, Bool.false_and, Bool.and_false, Bool.and_true, Bool.not_true, Bool.not_false]; simp only [h3, p1, p2, p5, h22, ↓reduceIte, Int.reduceEq, decide_true, decide_false, Bool.true_and, Bool.false_and, Bool.and_false, Bool.and_true, Bool.not_true, Bool.not_false]))
      repeat (first | rw [kz_o] | rw [kz_r0] | simp -dsimp -implicitDefEqProofs only [go_sem, Nat.reduceBEq, Nat.reduceAdd, Nat.reduceLeDiff, Nat.reduceMul, Int.reduceLE, Int.reduceLT, Int.reduceBEq, h1, h2, h3, h4, s0d, w0d, p1, p2, p5, h21, h22])
      have hok := (show sOkB c = true from (by first | (simp only [sOkB, emptyT_def, h1, h2, h4, s0d, w0d, h21, h23, numB, ↓reduceIte, Int.reduceEq, decide_true, decide_false, Bool.true_and, Bool.false_and, Bool.and_false, Bool.and_true, Bool.not_true, Bool.not_false]; done) | (simp only [sOkB, emptyT_def, h1, h2, h4, s0d, w0d, h21, h23, numB, ↓reduceIte, Int.reduceEq, decide_true, decide_false, Bool.true_and, Bool.false_and, Bool.and_false, Bool.and_true, Bool.not_true, Bool.not_false]; simp only [h3, p1, p2, p5, h22, ↓reduceIte, Int.reduceEq, decide_true, decide_false, Bool.true_and, Bool.false_and, Bool.and_false, Bool.and_true, Bool.not_true, Bool.not_false])))
      have hR := good hok
      refine pw_intro l24Byte_ok ?_
      rintro _ n3 hn3 rfl
      have a1 : (((byteT c.op).size + (byteT c.pos).size : Nat) : Int) ≤ 9223372036854775807 := by simp only [byteT_size]; omega
      repeat (first | rw [kz_o] | rw [kz_r0] | simp -dsimp -implicitDefEqProofs only [go_sem, Nat.reduceBEq, Nat.reduceAdd, Nat.reduceLeDiff, Nat.reduceMul, Int.reduceLE, Int.reduceLT, Int.reduceBEq, h1, h2, h3, h4, s0d, w0d, p1, p2, p5, h21, h22, h23, a1])
      exact fin _ _ _ (by repeat (first | exact H2.le.refl _ | apply le_push | refine le_up ?_ (by assumption) | refine le_up ?_ (by simp only [hn_up, hn_push] at *; omega))) (by rw [hR, askT, if_neg p1, if_neg p2, if_neg p5])
    · have w0d : decide (c.config.new = 0) = false := by simp only [w0, decide_false]
      refine gz_dec (fun p1 => ?_) (fun p1 => ?_)
      · repeat (first | rw [kz_o] | rw [kz_r0] | simp -dsimp -implicitDefEqProofs only [go_sem, Nat.reduceBEq, Nat.reduceAdd, Nat.reduceLeDiff, Nat.reduceMul, Int.reduceLE, Int.reduceLT, Int.reduceBEq, h1, h2, h3, h4, s0d, w0d, p1])
        refine pw_intro (specConfigOk_ok (F := fun j => F (j + 3)) (c := c.config) hf2) ?_
        rintro _ n26 hn26 rfl
        cases h25 : cfgOk c.config
        · repeat (first | rw [kz_o] | rw [kz_r0] | simp -dsimp -implicitDefEqProofs only [go_sem, Nat.reduceBEq, Nat.reduceAdd, Nat.reduceLeDiff, Nat.reduceMul, Int.reduceLE, Int.reduceLT, Int.reduceBEq, h1, h2, h3, h4, s0d, w0d, p1])
          exact bad _ (by repeat (first | exact H2.le.refl _ | apply le_push | refine le_up ?_ (by assumption) | refine le_up ?_ (by simp only [hn_up, hn_push] at *; omega))) (by first | (simp only [sOkB, emptyT_def, h1, h2, h4, s0d, w0d, h25, ↓reduceIte, Int.reduceEq, decide_true, decide_false, Bool.true_and, Bool.false_and, Bool.and_false, Bool.and_true, Bool.not_true, Bool.not_false]; done) | (simp only [sOkB, emptyT_def, h1, h2, h4, s0d, w0d, h25, ↓reduceIte, Int.reduceEq, decide_true, decide_false, Bool.true_and, Bool.false_and, Bool.and_false, Bool.and_true, Bool.not_true, Bool.not_false]; simp only [h3, p1, ↓reduceIte, Int.reduceEq, decide_true, decide_false, Bool.true_and, Bool.false_and, Bool.and_false, Bool.and_true, Bool.not_true, Bool.not_false]))
        repeat (first | rw [kz_o] | rw [kz_r0] | simp -dsimp -implicitDefEqProofs only [go_sem, Nat.reduceBEq, Nat.reduceAdd, Nat.reduceLeDiff, Nat.reduceMul, Int.reduceLE, Int.reduceLT, Int.reduceBEq, h1, h2, h3, h4, s0d, w0d, p1])
        refine gz_ndec (fun h27 => ?_) (fun h27 => ?_)
        rotate_left
        · repeat (first | rw [kz_o] | rw [kz_r0] | simp -dsimp -implicitDefEqProofs only [go_sem, Nat.reduceBEq, Nat.reduceAdd, Nat.reduceLeDiff, Nat.reduceMul, Int.reduceLE, Int.reduceLT, Int.reduceBEq, h1, h2, h3, h4, s0d, w0d, p1, h25, h27])
          exact bad _ (by repeat (first | exact H2.le.refl _ | apply le_push | refine le_up ?_ (by assumption) | refine le_up ?_ (by simp only [hn_up, hn_push] at *; omega))) (by first | (simp only [sOkB, emptyT_def, h1, h2, h4, s0d, w0d, h25, ↓reduceIte, Int.reduceEq, decide_true, decide_false, Bool.true_and, Bool.false_and, Bool.and_false, Bool.and_true, Bool.not_true, Bool.not_false]; done) | (simp only [sOkB, emptyT_def, h1, h2, h4, s0d, w0d, h25, ↓reduceIte, Int.reduceEq, decide_true, decide_false, Bool.true_and, Bool.false_and, Bool.and_false, Bool.and_true, Bool.not_true, Bool.not_false]; simp only [h3, p1, h27, ↓reduceIte, Int.reduceEq, decide_true, decide_false, Bool.true_and, Bool.false_and, Bool.and_false, Bool.and_true, Bool.not_true, Bool.not_false]))
        repeat (first | rw [kz_o] | rw [kz_r0] | simp -dsimp -implicitDefEqProofs only [go_sem, Nat.reduceBEq, Nat.reduceAdd, Nat.reduceLeDiff, Nat.reduceMul, Int.reduceLE, Int.reduceLT, Int.reduceBEq, h1, h2, h3, h4, s0d, w0d, p1, h25, h27])
        refine gz_ndec (fun h28 => ?_) (fun h28 => ?_)
        rotate_left
        · repeat (first | rw [kz_o] | rw [kz_r0] | simp -dsimp -implicitDefEqProofs only [go_sem, Nat.reduceBEq, Nat.reduceAdd, Nat.reduceLeDiff, Nat.reduceMul, Int.reduceLE, Int.reduceLT, Int.reduceBEq, h1, h2, h3, h4, s0d, w0d, p1, h25, h27, h28])
          exact bad _ (by repeat (first | exact H2.le.refl _ | apply le_push | refine le_up ?_ (by assumption) | refine le_up ?_ (by simp only [hn_up, hn_push] at *; omega))) (by first | (simp only [sOkB, emptyT_def, h1, h2, h4, s0d, w0d, h25, ↓reduceIte, Int.reduceEq, decide_true, decide_false, Bool.true_and, Bool.false_and, Bool.and_false, Bool.and_true, Bool.not_true, Bool.not_false]; done) | (simp only [sOkB, emptyT_def, h1, h2, h4, s0d, w0d, h25, ↓reduceIte, Int.reduceEq, decide_true, decide_false, Bool.true_and, Bool.false_and, Bool.and_false, Bool.and_true, Bool.not_true, Bool.not_false]; simp only [h3, p1, h27, h28, ↓reduceIte, Int.reduceEq, decide_true, decide_false, Bool.true_and, Bool.false_and, Bool.and_false, Bool.and_true, Bool.not_true, Bool.not_false]))
        replace h28 := Decidable.not_not.1 h28
        repeat (first | rw [kz_o] | rw [kz_r0] | simp -dsimp -implicitDefEqProofs only [go_sem, Nat.reduceBEq, Nat.reduceAdd, Nat.reduceLeDiff, Nat.reduceMul, Int.reduceLE, Int.reduceLT, Int.reduceBEq, h1, h2, h3, h4, s0d, w0d, p1, h25, h27, h28])
        refine gz_dec (fun h29 => ?_) (fun h29 => ?_)
        · repeat (first | rw [kz_o] | rw [kz_r0] | simp -dsimp -implicitDefEqProofs only [go_sem, Nat.reduceBEq, Nat.reduceAdd, Nat.reduceLeDiff, Nat.reduceMul, Int.reduceLE, Int.reduceLT, Int.reduceBEq, h1, h2, h3, h4, s0d, w0d, p1, h25, h27, h28, h29])
          exact bad _ (by repeat (first | exact H2.le.refl _ | apply le_push | refine le_up ?_ (by assumption) | refine le_up ?_ (by simp only [hn_up, hn_push] at *; omega))) (by first | (simp only [sOkB, emptyT_def, h1, h2, h4, s0d, w0d, h25, ↓reduceIte, Int.reduceEq, decide_true, decide_false, Bool.true_and, Bool.false_and, Bool.and_false, Bool.and_true, Bool.not_true, Bool.not_false]; done) | (simp only [sOkB, emptyT_def, h1, h2, h4, s0d, w0d, h25, ↓reduceIte, Int.reduceEq, decide_true, decide_false, Bool.true_and, Bool.false_and, Bool.and_false, Bool.and_true, Bool.not_true, Bool.not_false]; simp only [h3, p1, h27, h28, h29, ↓reduceIte, Int.reduceEq, decide_true, decide_false, Bool.true_and, Bool.false_and, Bool.and_false, Bool.and_true, Bool.not_true, Bool.not_false]))
        repeat (first | rw [kz_o] | rw [kz_r0] | simp -dsimp -implicitDefEqProofs only [go_sem, Nat.reduceBEq, Nat.reduceAdd, Nat.reduceLeDiff, Nat.reduceMul, Int.reduceLE, Int.reduceLT, Int.reduceBEq, h1, h2, h3, h4, s0d, w0d, p1, h25, h27, h28, h29])
        have hok := (show sOkB c = true from (by first | (simp only [sOkB, emptyT_def, h1, h2, h4, s0d, w0d, h25, ↓reduceIte, Int.reduceEq, decide_true, decide_false, Bool.true_and, Bool.false_and, Bool.and_false, Bool.and_true, Bool.not_true, Bool.not_false]; done) | (simp only [sOkB, emptyT_def, h1, h2, h4, s0d, w0d, h25, ↓reduceIte, Int.reduceEq, decide_true, decide_false, Bool.true_and, Bool.false_and, Bool.and_false, Bool.and_true, Bool.not_true, Bool.not_false]; simp only [h3, p1, h27, h28, h29, ↓reduceIte, Int.reduceEq, decide_true, decide_false, Bool.true_and, Bool.false_and, Bool.and_false, Bool.and_true, Bool.not_true, Bool.not_false])))
        have hok2 := sOk_eq.trans hok
        have hR := good hok
        obtain ⟨ht, hc⟩ := ask1 hok2 p1
        obtain ⟨hs0, hs1, hl, hz⟩ := cfg_facts hc
        obtain ⟨sd, hsd⟩ := Int.eq_ofNat_of_zero_le hs0
        have hst := shortT_size c.text
        have hvs := varT_size sd
        refine dq_intro [(0, []), (1, []), (2, []), (5, []), (6, []), (7, []), (10, []), (11, []), (12, []), (15, []), (16, []), (17, []), (20, []), (21, []), (22, []), (23, []), (3, [7, 12, 17, 22]), (4, []), (8, [12, 17, 22]), (9, []), (13, [17, 22]), (14, []), (18, [22]), (19, []), (24, []), (25, []), (26, [])] (by kernel_rfl) ?_
        repeat (first | rw [kz_o] | rw [kz_r0] | simp -dsimp -implicitDefEqProofs only [go_sem, Nat.reduceBEq, Nat.reduceAdd, Nat.reduceLeDiff, Nat.reduceMul, Int.reduceLE, Int.reduceLT, Int.reduceBEq, h1, h2, h3, h4, s0d, w0d, p1, h25, h27, h28, h29, hsd])
        refine pw_intro (l24Short_ok (by omega)) ?_
        rintro _ n3 hn3 rfl
        rw [kz_r]
        refine ⟨by simp -dsimp -implicitDefEqProofs only [go_sem, Nat.reduceBEq, Nat.reduceAdd, Nat.reduceLeDiff, Nat.reduceMul, Int.reduceLE, Int.reduceLT, Int.reduceBEq, h1, h2, h3, h4, s0d, w0d, p1, h25, h27, h28, h29, hsd], ?_⟩
        have a1 : (((byteT 1).size + (shortT c.text).size : Nat) : Int) ≤ 9223372036854775807 := by rw [byteT_size]; omega
        repeat (first | rw [kz_o] | rw [kz_r0] | simp -dsimp -implicitDefEqProofs only [go_sem, Nat.reduceBEq, Nat.reduceAdd, Nat.reduceLeDiff, Nat.reduceMul, Int.reduceLE, Int.reduceLT, Int.reduceBEq, h1, h2, h3, h4, s0d, w0d, p1, h25, h27, h28, h29, hsd, a1])
        refine pw_intro l24Byte_ok ?_
        rintro _ n4 hn4 rfl
        rw [kz_r]
        refine ⟨by simp -dsimp -implicitDefEqProofs only [go_sem, Nat.reduceBEq, Nat.reduceAdd, Nat.reduceLeDiff, Nat.reduceMul, Int.reduceLE, Int.reduceLT, Int.reduceBEq, h1, h2, h3, h4, s0d, w0d, p1, h25, h27, h28, h29, hsd, a1], ?_⟩
        have a2 : (((byteT 1 ++ shortT c.text).size + (byteT c.config.top).size : Nat) : Int) ≤ 9223372036854775807 := by simp only [ByteArray.size_append, byteT_size]; omega
        repeat (first | rw [kz_o] | rw [kz_r0] | simp -dsimp -implicitDefEqProofs only [go_sem, Nat.reduceBEq, Nat.reduceAdd, Nat.reduceLeDiff, Nat.reduceMul, Int.reduceLE, Int.reduceLT, Int.reduceBEq, h1, h2, h3, h4, s0d, w0d, p1, h25, h27, h28, h29, hsd, a1, a2])
        refine pw_intro (l01Var_ok (by omega)) ?_
        rintro _ n5 hn5 rfl
        rw [kz_r]
        refine ⟨by simp -dsimp -implicitDefEqProofs only [go_sem, Nat.reduceBEq, Nat.reduceAdd, Nat.reduceLeDiff, Nat.reduceMul, Int.reduceLE, Int.reduceLT, Int.reduceBEq, h1, h2, h3, h4, s0d, w0d, p1, h25, h27, h28, h29, hsd, a1], ?_⟩
        have a3 : ((((byteT 1 ++ shortT c.text) ++ byteT c.config.top).size + (varT sd).size : Nat) : Int) ≤ 9223372036854775807 := by simp only [ByteArray.size_append, byteT_size]; omega
        repeat (first | rw [kz_o] | rw [kz_r0] | simp -dsimp -implicitDefEqProofs only [go_sem, Nat.reduceBEq, Nat.reduceAdd, Nat.reduceLeDiff, Nat.reduceMul, Int.reduceLE, Int.reduceLT, Int.reduceBEq, h1, h2, h3, h4, s0d, w0d, p1, h25, h27, h28, h29, hsd, a1, a2, a3])
        refine pw_intro l24Byte_ok ?_
        rintro _ n6 hn6 rfl
        rw [kz_r]
        refine ⟨by simp -dsimp -implicitDefEqProofs only [go_sem, Nat.reduceBEq, Nat.reduceAdd, Nat.reduceLeDiff, Nat.reduceMul, Int.reduceLE, Int.reduceLT, Int.reduceBEq, h1, h2, h3, h4, s0d, w0d, p1, h25, h27, h28, h29, hsd, a1], ?_⟩
        have a4 : (((((byteT 1 ++ shortT c.text) ++ byteT c.config.top) ++ varT sd).size + (byteT c.config.new).size : Nat) : Int) ≤ 9223372036854775807 := by simp only [ByteArray.size_append, byteT_size]; omega
        repeat (first | rw [kz_o] | rw [kz_r0] | simp -dsimp -implicitDefEqProofs only [go_sem, Nat.reduceBEq, Nat.reduceAdd, Nat.reduceLeDiff, Nat.reduceMul, Int.reduceLE, Int.reduceLT, Int.reduceBEq, h1, h2, h3, h4, s0d, w0d, p1, h25, h27, h28, h29, hsd, a1, a2, a3, a4])
        refine pw_intro l24Byte_ok ?_
        rintro _ n7 hn7 rfl
        rw [kz_r]
        refine ⟨by simp -dsimp -implicitDefEqProofs only [go_sem, Nat.reduceBEq, Nat.reduceAdd, Nat.reduceLeDiff, Nat.reduceMul, Int.reduceLE, Int.reduceLT, Int.reduceBEq, h1, h2, h3, h4, s0d, w0d, p1, h25, h27, h28, h29, hsd, a1], ?_⟩
        have a5 : ((((((byteT 1 ++ shortT c.text) ++ byteT c.config.top) ++ varT sd) ++ byteT c.config.new).size + (byteT c.config.stops.length).size : Nat) : Int) ≤ 9223372036854775807 := by simp only [ByteArray.size_append, byteT_size]; omega
        repeat (first | rw [kz_o] | rw [kz_r0] | simp -dsimp -implicitDefEqProofs only [go_sem, Nat.reduceBEq, Nat.reduceAdd, Nat.reduceLeDiff, Nat.reduceMul, Int.reduceLE, Int.reduceLT, Int.reduceBEq, h1, h2, h3, h4, s0d, w0d, p1, h25, h27, h28, h29, hsd, a1, a2, a3, a4, a5])
        have hT : askT c = c.config.stops.foldl (fun s x => s ++ shortT x) (((((byteT 1 ++ shortT c.text) ++ byteT c.config.top) ++ varT sd) ++ byteT c.config.new) ++ byteT c.config.stops.length) := by
          rw [askT, if_pos p1, hsd, Int.toNat_natCast]; simp only [ByteArray.append_assoc]
        have hB : (((((byteT 1 ++ shortT c.text) ++ byteT c.config.top) ++ varT sd) ++ byteT c.config.new) ++ byteT c.config.stops.length).size ≤ 1000001000 := by simp only [ByteArray.size_append, byteT_size]; omega
        generalize hb0 : ((((byteT 1 ++ shortT c.text) ++ byteT c.config.top) ++ varT sd) ++ byteT c.config.new) ++ byteT c.config.stops.length = base at hT hB ⊢
        refine lz_keep [1] (fun m e h' => h.le h' ∧ hg h' (hn h .mk) .mk = some ⟨8, xAsk F c⟩ ∧ ∃ (k : Nat) (s : ByteArray), look e 6 .mk = .raw (.int .i64 k) ∧ look e 4 .mk = .raw (.string s) ∧ m + k = c.config.stops.length ∧ s = (c.config.stops.take k).foldl (fun s x => s ++ shortT x) base ∧ s.size ≤ base.size + k * 1000) c.config.stops.length ?_ ?_
        · exact ⟨by repeat (first | exact H2.le.refl _ | apply le_push | refine le_up ?_ (by assumption) | refine le_up ?_ (by simp only [hn_up, hn_push] at *; omega)), by simp -dsimp -implicitDefEqProofs only [go_sem, Nat.reduceBEq, Nat.reduceAdd, Nat.reduceLeDiff, Nat.reduceMul, Int.reduceLE, Int.reduceLT, Int.reduceBEq, h1, h2, h3, h4, s0d, w0d, p1, h25, h27, h28, h29, hsd], 0, base, by simp -dsimp -implicitDefEqProofs only [go_sem, Nat.reduceBEq, Nat.reduceAdd, Nat.reduceLeDiff, Nat.reduceMul, Int.reduceLE, Int.reduceLT, Int.reduceBEq], by simp -dsimp -implicitDefEqProofs only [go_sem, Nat.reduceBEq, Nat.reduceAdd, Nat.reduceLeDiff, Nat.reduceMul, Int.reduceLE, Int.reduceLT, Int.reduceBEq, hb0], by omega, rfl, by omega⟩
        · rintro m e h' hks ⟨hle, hrow, k, s, e6, e4, hk, hs, hsz⟩
          simp -dsimp -implicitDefEqProofs only [go_sem, Nat.reduceBEq, Nat.reduceAdd, Nat.reduceLeDiff, Nat.reduceMul, Int.reduceLE, Int.reduceLT, Int.reduceBEq] at hks
          repeat (first | rw [kz_o] | rw [kz_r0] | simp -dsimp -implicitDefEqProofs only [go_sem, Nat.reduceBEq, Nat.reduceAdd, Nat.reduceLeDiff, Nat.reduceMul, Int.reduceLE, Int.reduceLT, Int.reduceBEq, hks, hrow, e6, e4])
          refine gz_dec (fun h2 => ?_) (fun h2 => ?_)
          · have h3 : k < c.config.stops.length := by omega
            have h8 := hz k h3
            have h9 := shortT_size (c.config.stops.getD k default)
            repeat (first | rw [kz_o] | rw [kz_r0] | simp -dsimp -implicitDefEqProofs only [go_sem, Nat.reduceBEq, Nat.reduceAdd, Nat.reduceLeDiff, Nat.reduceMul, Int.reduceLE, Int.reduceLT, Int.reduceBEq, hks, hrow, e6, e4, h3])
            refine pw_intro (l24Short_ok (by omega)) ?_
            rintro _ n8 hn8 rfl
            have a6 : ((s.size + (shortT (c.config.stops.getD k default)).size : Nat) : Int) ≤ 9223372036854775807 := by omega
            repeat (first | rw [kz_o] | rw [kz_r0] | simp -dsimp -implicitDefEqProofs only [go_sem, Nat.reduceBEq, Nat.reduceAdd, Nat.reduceLeDiff, Nat.reduceMul, Int.reduceLE, Int.reduceLT, Int.reduceBEq, hks, hrow, e6, e4, h3, a6, wrap_succ h3 hf2])
            exact nx_keep (m - 1) (by omega) (by simp -dsimp -implicitDefEqProofs only [go_sem, Nat.reduceBEq, Nat.reduceAdd, Nat.reduceLeDiff, Nat.reduceMul, Int.reduceLE, Int.reduceLT, Int.reduceBEq, hks]) ⟨le_up hle hn8, hrow, k + 1, s ++ shortT (c.config.stops.getD k default), by simp -dsimp -implicitDefEqProofs only [go_sem, Nat.reduceBEq, Nat.reduceAdd, Nat.reduceLeDiff, Nat.reduceMul, Int.reduceLE, Int.reduceLT, Int.reduceBEq], by simp -dsimp -implicitDefEqProofs only [go_sem, Nat.reduceBEq, Nat.reduceAdd, Nat.reduceLeDiff, Nat.reduceMul, Int.reduceLE, Int.reduceLT, Int.reduceBEq], by omega, by rw [foldl_take h3, ← hs], by rw [ByteArray.size_append]; omega⟩
          · repeat (first | rw [kz_o] | rw [kz_r0] | simp -dsimp -implicitDefEqProofs only [go_sem, Nat.reduceBEq, Nat.reduceAdd, Nat.reduceLeDiff, Nat.reduceMul, Int.reduceLE, Int.reduceLT, Int.reduceBEq, hks, hrow, e6, e4])
            exact fin _ _ _ hle (by rw [hR, hT, hs, foldl_all (by omega)])
      repeat (first | rw [kz_o] | rw [kz_r0] | simp -dsimp -implicitDefEqProofs only [go_sem, Nat.reduceBEq, Nat.reduceAdd, Nat.reduceLeDiff, Nat.reduceMul, Int.reduceLE, Int.reduceLT, Int.reduceBEq, h1, h2, h3, h4, s0d, w0d, p1])
      refine gz_dec (fun p2 => ?_) (fun p2 => ?_)
      · repeat (first | rw [kz_o] | rw [kz_r0] | simp -dsimp -implicitDefEqProofs only [go_sem, Nat.reduceBEq, Nat.reduceAdd, Nat.reduceLeDiff, Nat.reduceMul, Int.reduceLE, Int.reduceLT, Int.reduceBEq, h1, h2, h3, h4, s0d, w0d, p1, p2])
        refine gz_intro (fun h30 => ?_) (fun h30 => ?_)
        rotate_left
        · try simp only [Bool.not_not, Bool.not_eq_true', Bool.not_eq_false'] at h30
          repeat (first | rw [kz_o] | rw [kz_r0] | simp -dsimp -implicitDefEqProofs only [go_sem, Nat.reduceBEq, Nat.reduceAdd, Nat.reduceLeDiff, Nat.reduceMul, Int.reduceLE, Int.reduceLT, Int.reduceBEq, h1, h2, h3, h4, s0d, w0d, p1, p2, h30])
          exact bad _ (by repeat (first | exact H2.le.refl _ | apply le_push | refine le_up ?_ (by assumption) | refine le_up ?_ (by simp only [hn_up, hn_push] at *; omega))) (by first | (simp only [sOkB, emptyT_def, h1, h2, h4, s0d, w0d, h30, ↓reduceIte, Int.reduceEq, decide_true, decide_false, Bool.true_and, Bool.false_and, Bool.and_false, Bool.and_true, Bool.not_true, Bool.not_false]; done) | (simp only [sOkB, emptyT_def, h1, h2, h4, s0d, w0d, h30, ↓reduceIte, Int.reduceEq, decide_true, decide_false, Bool.true_and, Bool.false_and, Bool.and_false, Bool.and_true, Bool.not_true, Bool.not_false]; simp only [h3, p1, p2, ↓reduceIte, Int.reduceEq, decide_true, decide_false, Bool.true_and, Bool.false_and, Bool.and_false, Bool.and_true, Bool.not_true, Bool.not_false]))
        try simp only [Bool.not_not, Bool.not_eq_true', Bool.not_eq_false'] at h30
        repeat (first | rw [kz_o] | rw [kz_r0] | simp -dsimp -implicitDefEqProofs only [go_sem, Nat.reduceBEq, Nat.reduceAdd, Nat.reduceLeDiff, Nat.reduceMul, Int.reduceLE, Int.reduceLT, Int.reduceBEq, h1, h2, h3, h4, s0d, w0d, p1, p2, h30])
        refine gz_ndec (fun h31 => ?_) (fun h31 => ?_)
        rotate_left
        · repeat (first | rw [kz_o] | rw [kz_r0] | simp -dsimp -implicitDefEqProofs only [go_sem, Nat.reduceBEq, Nat.reduceAdd, Nat.reduceLeDiff, Nat.reduceMul, Int.reduceLE, Int.reduceLT, Int.reduceBEq, h1, h2, h3, h4, s0d, w0d, p1, p2, h30, h31])
          exact bad _ (by repeat (first | exact H2.le.refl _ | apply le_push | refine le_up ?_ (by assumption) | refine le_up ?_ (by simp only [hn_up, hn_push] at *; omega))) (by first | (simp only [sOkB, emptyT_def, h1, h2, h4, s0d, w0d, h30, ↓reduceIte, Int.reduceEq, decide_true, decide_false, Bool.true_and, Bool.false_and, Bool.and_false, Bool.and_true, Bool.not_true, Bool.not_false]; done) | (simp only [sOkB, emptyT_def, h1, h2, h4, s0d, w0d, h30, ↓reduceIte, Int.reduceEq, decide_true, decide_false, Bool.true_and, Bool.false_and, Bool.and_false, Bool.and_true, Bool.not_true, Bool.not_false]; simp only [h3, p1, p2, h31, ↓reduceIte, Int.reduceEq, decide_true, decide_false, Bool.true_and, Bool.false_and, Bool.and_false, Bool.and_true, Bool.not_true, Bool.not_false]))
        repeat (first | rw [kz_o] | rw [kz_r0] | simp -dsimp -implicitDefEqProofs only [go_sem, Nat.reduceBEq, Nat.reduceAdd, Nat.reduceLeDiff, Nat.reduceMul, Int.reduceLE, Int.reduceLT, Int.reduceBEq, h1, h2, h3, h4, s0d, w0d, p1, p2, h30, h31])
        refine pw_intro (l24Bare_ok (F := fun j => F (j + 3)) (c := c.config)) ?_
        rintro _ n33 hn33 rfl
        cases h32 : bareB c.config
        · repeat (first | rw [kz_o] | rw [kz_r0] | simp -dsimp -implicitDefEqProofs only [go_sem, Nat.reduceBEq, Nat.reduceAdd, Nat.reduceLeDiff, Nat.reduceMul, Int.reduceLE, Int.reduceLT, Int.reduceBEq, h1, h2, h3, h4, s0d, w0d, p1, p2, h30, h31])
          exact bad _ (by repeat (first | exact H2.le.refl _ | apply le_push | refine le_up ?_ (by assumption) | refine le_up ?_ (by simp only [hn_up, hn_push] at *; omega))) (by first | (simp only [sOkB, emptyT_def, h1, h2, h4, s0d, w0d, h30, h32, ↓reduceIte, Int.reduceEq, decide_true, decide_false, Bool.true_and, Bool.false_and, Bool.and_false, Bool.and_true, Bool.not_true, Bool.not_false]; done) | (simp only [sOkB, emptyT_def, h1, h2, h4, s0d, w0d, h30, h32, ↓reduceIte, Int.reduceEq, decide_true, decide_false, Bool.true_and, Bool.false_and, Bool.and_false, Bool.and_true, Bool.not_true, Bool.not_false]; simp only [h3, p1, p2, h31, ↓reduceIte, Int.reduceEq, decide_true, decide_false, Bool.true_and, Bool.false_and, Bool.and_false, Bool.and_true, Bool.not_true, Bool.not_false]))
        repeat (first | rw [kz_o] | rw [kz_r0] | simp -dsimp -implicitDefEqProofs only [go_sem, Nat.reduceBEq, Nat.reduceAdd, Nat.reduceLeDiff, Nat.reduceMul, Int.reduceLE, Int.reduceLT, Int.reduceBEq, h1, h2, h3, h4, s0d, w0d, p1, p2, h30, h31])
        refine wz_intro l01In_ok ?_
        rintro _ h' ⟨rfl, rfl⟩
        cases h34 : inI c.config.seed 0 1000000000
        · repeat (first | rw [kz_o] | rw [kz_r0] | simp -dsimp -implicitDefEqProofs only [go_sem, Nat.reduceBEq, Nat.reduceAdd, Nat.reduceLeDiff, Nat.reduceMul, Int.reduceLE, Int.reduceLT, Int.reduceBEq, h1, h2, h3, h4, s0d, w0d, p1, p2, h30, h31, h32])
          exact bad _ (by repeat (first | exact H2.le.refl _ | apply le_push | refine le_up ?_ (by assumption) | refine le_up ?_ (by simp only [hn_up, hn_push] at *; omega))) (by first | (simp only [sOkB, emptyT_def, h1, h2, h4, s0d, w0d, h30, h32, h34, ↓reduceIte, Int.reduceEq, decide_true, decide_false, Bool.true_and, Bool.false_and, Bool.and_false, Bool.and_true, Bool.not_true, Bool.not_false]; done) | (simp only [sOkB, emptyT_def, h1, h2, h4, s0d, w0d, h30, h32, h34, ↓reduceIte, Int.reduceEq, decide_true, decide_false, Bool.true_and, Bool.false_and, Bool.and_false, Bool.and_true, Bool.not_true, Bool.not_false]; simp only [h3, p1, p2, h31, ↓reduceIte, Int.reduceEq, decide_true, decide_false, Bool.true_and, Bool.false_and, Bool.and_false, Bool.and_true, Bool.not_true, Bool.not_false]))
        repeat (first | rw [kz_o] | rw [kz_r0] | simp -dsimp -implicitDefEqProofs only [go_sem, Nat.reduceBEq, Nat.reduceAdd, Nat.reduceLeDiff, Nat.reduceMul, Int.reduceLE, Int.reduceLT, Int.reduceBEq, h1, h2, h3, h4, s0d, w0d, p1, p2, h30, h31, h32])
        refine wz_intro l01In_ok ?_
        rintro _ h' ⟨rfl, rfl⟩
        cases h35 : inI c.config.new 1 24
        · repeat (first | rw [kz_o] | rw [kz_r0] | simp -dsimp -implicitDefEqProofs only [go_sem, Nat.reduceBEq, Nat.reduceAdd, Nat.reduceLeDiff, Nat.reduceMul, Int.reduceLE, Int.reduceLT, Int.reduceBEq, h1, h2, h3, h4, s0d, w0d, p1, p2, h30, h31, h32, h34])
          exact bad _ (by repeat (first | exact H2.le.refl _ | apply le_push | refine le_up ?_ (by assumption) | refine le_up ?_ (by simp only [hn_up, hn_push] at *; omega))) (by first | (simp only [sOkB, emptyT_def, h1, h2, h4, s0d, w0d, h30, h32, h34, h35, ↓reduceIte, Int.reduceEq, decide_true, decide_false, Bool.true_and, Bool.false_and, Bool.and_false, Bool.and_true, Bool.not_true, Bool.not_false]; done) | (simp only [sOkB, emptyT_def, h1, h2, h4, s0d, w0d, h30, h32, h34, h35, ↓reduceIte, Int.reduceEq, decide_true, decide_false, Bool.true_and, Bool.false_and, Bool.and_false, Bool.and_true, Bool.not_true, Bool.not_false]; simp only [h3, p1, p2, h31, ↓reduceIte, Int.reduceEq, decide_true, decide_false, Bool.true_and, Bool.false_and, Bool.and_false, Bool.and_true, Bool.not_true, Bool.not_false]))
        repeat (first | rw [kz_o] | rw [kz_r0] | simp -dsimp -implicitDefEqProofs only [go_sem, Nat.reduceBEq, Nat.reduceAdd, Nat.reduceLeDiff, Nat.reduceMul, Int.reduceLE, Int.reduceLT, Int.reduceBEq, h1, h2, h3, h4, s0d, w0d, p1, p2, h30, h31, h32, h34])
        have hok := (show sOkB c = true from (by first | (simp only [sOkB, emptyT_def, h1, h2, h4, s0d, w0d, h30, h32, h34, h35, ↓reduceIte, Int.reduceEq, decide_true, decide_false, Bool.true_and, Bool.false_and, Bool.and_false, Bool.and_true, Bool.not_true, Bool.not_false]; done) | (simp only [sOkB, emptyT_def, h1, h2, h4, s0d, w0d, h30, h32, h34, h35, ↓reduceIte, Int.reduceEq, decide_true, decide_false, Bool.true_and, Bool.false_and, Bool.and_false, Bool.and_true, Bool.not_true, Bool.not_false]; simp only [h3, p1, p2, h31, ↓reduceIte, Int.reduceEq, decide_true, decide_false, Bool.true_and, Bool.false_and, Bool.and_false, Bool.and_true, Bool.not_true, Bool.not_false])))
        have hok2 := sOk_eq.trans hok
        have hR := good hok
        obtain ⟨hs0, hs1⟩ := ask2 hok2 p2
        obtain ⟨sd, hsd⟩ := Int.eq_ofNat_of_zero_le hs0
        have hvs := varT_size sd
        refine dq_intro [(0, []), (1, []), (2, []), (5, []), (6, []), (7, []), (10, []), (11, []), (12, []), (3, [7, 12]), (4, []), (8, [12]), (9, []), (13, []), (14, []), (15, []), (16, [])] (by kernel_rfl) ?_
        repeat (first | rw [kz_o] | rw [kz_r0] | simp -dsimp -implicitDefEqProofs only [go_sem, Nat.reduceBEq, Nat.reduceAdd, Nat.reduceLeDiff, Nat.reduceMul, Int.reduceLE, Int.reduceLT, Int.reduceBEq, h1, h2, h3, h4, s0d, w0d, p1, p2, h30, h31, h32, h34, h35, hsd])
        refine pw_intro l24Byte_ok ?_
        rintro _ n3 hn3 rfl
        rw [kz_r]
        refine ⟨by simp -dsimp -implicitDefEqProofs only [go_sem, Nat.reduceBEq, Nat.reduceAdd, Nat.reduceLeDiff, Nat.reduceMul, Int.reduceLE, Int.reduceLT, Int.reduceBEq, h1, h2, h3, h4, s0d, w0d, p1, p2, h30, h31, h32, h34, h35, hsd], ?_⟩
        have a1 : (((byteT 2).size + (byteT c.pos).size : Nat) : Int) ≤ 9223372036854775807 := by simp only [byteT_size]; omega
        repeat (first | rw [kz_o] | rw [kz_r0] | simp -dsimp -implicitDefEqProofs only [go_sem, Nat.reduceBEq, Nat.reduceAdd, Nat.reduceLeDiff, Nat.reduceMul, Int.reduceLE, Int.reduceLT, Int.reduceBEq, h1, h2, h3, h4, s0d, w0d, p1, p2, h30, h31, h32, h34, h35, hsd, a1])
        refine pw_intro (l01Var_ok (by omega)) ?_
        rintro _ n4 hn4 rfl
        rw [kz_r]
        refine ⟨by simp -dsimp -implicitDefEqProofs only [go_sem, Nat.reduceBEq, Nat.reduceAdd, Nat.reduceLeDiff, Nat.reduceMul, Int.reduceLE, Int.reduceLT, Int.reduceBEq, h1, h2, h3, h4, s0d, w0d, p1, p2, h30, h31, h32, h34, h35, hsd], ?_⟩
        have a2 : (((byteT 2 ++ byteT c.pos).size + (varT sd).size : Nat) : Int) ≤ 9223372036854775807 := by simp only [ByteArray.size_append, byteT_size]; omega
        repeat (first | rw [kz_o] | rw [kz_r0] | simp -dsimp -implicitDefEqProofs only [go_sem, Nat.reduceBEq, Nat.reduceAdd, Nat.reduceLeDiff, Nat.reduceMul, Int.reduceLE, Int.reduceLT, Int.reduceBEq, h1, h2, h3, h4, s0d, w0d, p1, p2, h30, h31, h32, h34, h35, hsd, a1, a2])
        refine pw_intro l24Byte_ok ?_
        rintro _ n5 hn5 rfl
        rw [kz_r]
        refine ⟨by simp -dsimp -implicitDefEqProofs only [go_sem, Nat.reduceBEq, Nat.reduceAdd, Nat.reduceLeDiff, Nat.reduceMul, Int.reduceLE, Int.reduceLT, Int.reduceBEq, h1, h2, h3, h4, s0d, w0d, p1, p2, h30, h31, h32, h34, h35, hsd], ?_⟩
        have a3 : ((((byteT 2 ++ byteT c.pos) ++ varT sd).size + (byteT c.config.new).size : Nat) : Int) ≤ 9223372036854775807 := by simp only [ByteArray.size_append, byteT_size]; omega
        repeat (first | rw [kz_o] | rw [kz_r0] | simp -dsimp -implicitDefEqProofs only [go_sem, Nat.reduceBEq, Nat.reduceAdd, Nat.reduceLeDiff, Nat.reduceMul, Int.reduceLE, Int.reduceLT, Int.reduceBEq, h1, h2, h3, h4, s0d, w0d, p1, p2, h30, h31, h32, h34, h35, hsd, a1, a2, a3])
        exact fin _ _ _ (by repeat (first | exact H2.le.refl _ | apply le_push | refine le_up ?_ (by assumption) | refine le_up ?_ (by simp only [hn_up, hn_push] at *; omega))) (by rw [hR, askT, if_neg p1, if_pos p2, hsd, Int.toNat_natCast]; simp only [ByteArray.append_assoc])
      repeat (first | rw [kz_o] | rw [kz_r0] | simp -dsimp -implicitDefEqProofs only [go_sem, Nat.reduceBEq, Nat.reduceAdd, Nat.reduceLeDiff, Nat.reduceMul, Int.reduceLE, Int.reduceLT, Int.reduceBEq, h1, h2, h3, h4, s0d, w0d, p1, p2])
      refine gz_dec (fun p5 => ?_) (fun p5 => ?_)
      · repeat (first | rw [kz_o] | rw [kz_r0] | simp -dsimp -implicitDefEqProofs only [go_sem, Nat.reduceBEq, Nat.reduceAdd, Nat.reduceLeDiff, Nat.reduceMul, Int.reduceLE, Int.reduceLT, Int.reduceBEq, h1, h2, h3, h4, s0d, w0d, p1, p2, p5])
        refine gz_intro (fun h36 => ?_) (fun h36 => ?_)
        rotate_left
        · try simp only [Bool.not_not, Bool.not_eq_true', Bool.not_eq_false'] at h36
          repeat (first | rw [kz_o] | rw [kz_r0] | simp -dsimp -implicitDefEqProofs only [go_sem, Nat.reduceBEq, Nat.reduceAdd, Nat.reduceLeDiff, Nat.reduceMul, Int.reduceLE, Int.reduceLT, Int.reduceBEq, h1, h2, h3, h4, s0d, w0d, p1, p2, p5, h36])
          exact bad _ (by repeat (first | exact H2.le.refl _ | apply le_push | refine le_up ?_ (by assumption) | refine le_up ?_ (by simp only [hn_up, hn_push] at *; omega))) (by first | (simp only [sOkB, emptyT_def, h1, h2, h4, s0d, w0d, h36, ↓reduceIte, Int.reduceEq, decide_true, decide_false, Bool.true_and, Bool.false_and, Bool.and_false, Bool.and_true, Bool.not_true, Bool.not_false]; done) | (simp only [sOkB, emptyT_def, h1, h2, h4, s0d, w0d, h36, ↓reduceIte, Int.reduceEq, decide_true, decide_false, Bool.true_and, Bool.false_and, Bool.and_false, Bool.and_true, Bool.not_true, Bool.not_false]; simp only [h3, p1, p2, p5, ↓reduceIte, Int.reduceEq, decide_true, decide_false, Bool.true_and, Bool.false_and, Bool.and_false, Bool.and_true, Bool.not_true, Bool.not_false]))
        try simp only [Bool.not_not, Bool.not_eq_true', Bool.not_eq_false'] at h36
        repeat (first | rw [kz_o] | rw [kz_r0] | simp -dsimp -implicitDefEqProofs only [go_sem, Nat.reduceBEq, Nat.reduceAdd, Nat.reduceLeDiff, Nat.reduceMul, Int.reduceLE, Int.reduceLT, Int.reduceBEq, h1, h2, h3, h4, s0d, w0d, p1, p2, p5, h36])
        refine gz_ndec (fun h37 => ?_) (fun h37 => ?_)
        rotate_left
        · repeat (first | rw [kz_o] | rw [kz_r0] | simp -dsimp -implicitDefEqProofs only [go_sem, Nat.reduceBEq, Nat.reduceAdd, Nat.reduceLeDiff, Nat.reduceMul, Int.reduceLE, Int.reduceLT, Int.reduceBEq, h1, h2, h3, h4, s0d, w0d, p1, p2, p5, h36, h37])
          exact bad _ (by repeat (first | exact H2.le.refl _ | apply le_push | refine le_up ?_ (by assumption) | refine le_up ?_ (by simp only [hn_up, hn_push] at *; omega))) (by first | (simp only [sOkB, emptyT_def, h1, h2, h4, s0d, w0d, h36, ↓reduceIte, Int.reduceEq, decide_true, decide_false, Bool.true_and, Bool.false_and, Bool.and_false, Bool.and_true, Bool.not_true, Bool.not_false]; done) | (simp only [sOkB, emptyT_def, h1, h2, h4, s0d, w0d, h36, ↓reduceIte, Int.reduceEq, decide_true, decide_false, Bool.true_and, Bool.false_and, Bool.and_false, Bool.and_true, Bool.not_true, Bool.not_false]; simp only [h3, p1, p2, p5, h37, ↓reduceIte, Int.reduceEq, decide_true, decide_false, Bool.true_and, Bool.false_and, Bool.and_false, Bool.and_true, Bool.not_true, Bool.not_false]))
        replace h37 := Decidable.not_not.1 h37
        repeat (first | rw [kz_o] | rw [kz_r0] | simp -dsimp -implicitDefEqProofs only [go_sem, Nat.reduceBEq, Nat.reduceAdd, Nat.reduceLeDiff, Nat.reduceMul, Int.reduceLE, Int.reduceLT, Int.reduceBEq, h1, h2, h3, h4, s0d, w0d, p1, p2, p5, h36, h37])
        refine pw_intro (l24Bare_ok (F := fun j => F (j + 3)) (c := c.config)) ?_
        rintro _ n39 hn39 rfl
        cases h38 : bareB c.config
        · repeat (first | rw [kz_o] | rw [kz_r0] | simp -dsimp -implicitDefEqProofs only [go_sem, Nat.reduceBEq, Nat.reduceAdd, Nat.reduceLeDiff, Nat.reduceMul, Int.reduceLE, Int.reduceLT, Int.reduceBEq, h1, h2, h3, h4, s0d, w0d, p1, p2, p5, h36, h37])
          exact bad _ (by repeat (first | exact H2.le.refl _ | apply le_push | refine le_up ?_ (by assumption) | refine le_up ?_ (by simp only [hn_up, hn_push] at *; omega))) (by first | (simp only [sOkB, emptyT_def, h1, h2, h4, s0d, w0d, h36, h38, ↓reduceIte, Int.reduceEq, decide_true, decide_false, Bool.true_and, Bool.false_and, Bool.and_false, Bool.and_true, Bool.not_true, Bool.not_false]; done) | (simp only [sOkB, emptyT_def, h1, h2, h4, s0d, w0d, h36, h38, ↓reduceIte, Int.reduceEq, decide_true, decide_false, Bool.true_and, Bool.false_and, Bool.and_false, Bool.and_true, Bool.not_true, Bool.not_false]; simp only [h3, p1, p2, p5, h37, ↓reduceIte, Int.reduceEq, decide_true, decide_false, Bool.true_and, Bool.false_and, Bool.and_false, Bool.and_true, Bool.not_true, Bool.not_false]))
        repeat (first | rw [kz_o] | rw [kz_r0] | simp -dsimp -implicitDefEqProofs only [go_sem, Nat.reduceBEq, Nat.reduceAdd, Nat.reduceLeDiff, Nat.reduceMul, Int.reduceLE, Int.reduceLT, Int.reduceBEq, h1, h2, h3, h4, s0d, w0d, p1, p2, p5, h36, h37])
        exact bad _ (by repeat (first | exact H2.le.refl _ | apply le_push | refine le_up ?_ (by assumption) | refine le_up ?_ (by simp only [hn_up, hn_push] at *; omega))) (by first | (simp only [sOkB, emptyT_def, h1, h2, h4, s0d, w0d, h36, h38, numB, ↓reduceIte, Int.reduceEq, decide_true, decide_false, Bool.true_and, Bool.false_and, Bool.and_false, Bool.and_true, Bool.not_true, Bool.not_false]; done) | (simp only [sOkB, emptyT_def, h1, h2, h4, s0d, w0d, h36, h38, numB, ↓reduceIte, Int.reduceEq, decide_true, decide_false, Bool.true_and, Bool.false_and, Bool.and_false, Bool.and_true, Bool.not_true, Bool.not_false]; simp only [h3, p1, p2, p5, h37, ↓reduceIte, Int.reduceEq, decide_true, decide_false, Bool.true_and, Bool.false_and, Bool.and_false, Bool.and_true, Bool.not_true, Bool.not_false]))
      repeat (first | rw [kz_o] | rw [kz_r0] | simp -dsimp -implicitDefEqProofs only [go_sem, Nat.reduceBEq, Nat.reduceAdd, Nat.reduceLeDiff, Nat.reduceMul, Int.reduceLE, Int.reduceLT, Int.reduceBEq, h1, h2, h3, h4, s0d, w0d, p1, p2, p5])
      refine gz_intro (fun h40 => ?_) (fun h40 => ?_)
      rotate_left
      · try simp only [Bool.not_not, Bool.not_eq_true', Bool.not_eq_false'] at h40
        repeat (first | rw [kz_o] | rw [kz_r0] | simp -dsimp -implicitDefEqProofs only [go_sem, Nat.reduceBEq, Nat.reduceAdd, Nat.reduceLeDiff, Nat.reduceMul, Int.reduceLE, Int.reduceLT, Int.reduceBEq, h1, h2, h3, h4, s0d, w0d, p1, p2, p5, h40])
        exact bad _ (by repeat (first | exact H2.le.refl _ | apply le_push | refine le_up ?_ (by assumption) | refine le_up ?_ (by simp only [hn_up, hn_push] at *; omega))) (by first | (simp only [sOkB, emptyT_def, h1, h2, h4, s0d, w0d, h40, ↓reduceIte, Int.reduceEq, decide_true, decide_false, Bool.true_and, Bool.false_and, Bool.and_false, Bool.and_true, Bool.not_true, Bool.not_false]; done) | (simp only [sOkB, emptyT_def, h1, h2, h4, s0d, w0d, h40, ↓reduceIte, Int.reduceEq, decide_true, decide_false, Bool.true_and, Bool.false_and, Bool.and_false, Bool.and_true, Bool.not_true, Bool.not_false]; simp only [h3, p1, p2, p5, ↓reduceIte, Int.reduceEq, decide_true, decide_false, Bool.true_and, Bool.false_and, Bool.and_false, Bool.and_true, Bool.not_true, Bool.not_false]))
      try simp only [Bool.not_not, Bool.not_eq_true', Bool.not_eq_false'] at h40
      repeat (first | rw [kz_o] | rw [kz_r0] | simp -dsimp -implicitDefEqProofs only [go_sem, Nat.reduceBEq, Nat.reduceAdd, Nat.reduceLeDiff, Nat.reduceMul, Int.reduceLE, Int.reduceLT, Int.reduceBEq, h1, h2, h3, h4, s0d, w0d, p1, p2, p5, h40])
      refine gz_ndec (fun h41 => ?_) (fun h41 => ?_)
      rotate_left
      · repeat (first | rw [kz_o] | rw [kz_r0] | simp -dsimp -implicitDefEqProofs only [go_sem, Nat.reduceBEq, Nat.reduceAdd, Nat.reduceLeDiff, Nat.reduceMul, Int.reduceLE, Int.reduceLT, Int.reduceBEq, h1, h2, h3, h4, s0d, w0d, p1, p2, p5, h40, h41])
        exact bad _ (by repeat (first | exact H2.le.refl _ | apply le_push | refine le_up ?_ (by assumption) | refine le_up ?_ (by simp only [hn_up, hn_push] at *; omega))) (by first | (simp only [sOkB, emptyT_def, h1, h2, h4, s0d, w0d, h40, ↓reduceIte, Int.reduceEq, decide_true, decide_false, Bool.true_and, Bool.false_and, Bool.and_false, Bool.and_true, Bool.not_true, Bool.not_false]; done) | (simp only [sOkB, emptyT_def, h1, h2, h4, s0d, w0d, h40, ↓reduceIte, Int.reduceEq, decide_true, decide_false, Bool.true_and, Bool.false_and, Bool.and_false, Bool.and_true, Bool.not_true, Bool.not_false]; simp only [h3, p1, p2, p5, h41, ↓reduceIte, Int.reduceEq, decide_true, decide_false, Bool.true_and, Bool.false_and, Bool.and_false, Bool.and_true, Bool.not_true, Bool.not_false]))
      repeat (first | rw [kz_o] | rw [kz_r0] | simp -dsimp -implicitDefEqProofs only [go_sem, Nat.reduceBEq, Nat.reduceAdd, Nat.reduceLeDiff, Nat.reduceMul, Int.reduceLE, Int.reduceLT, Int.reduceBEq, h1, h2, h3, h4, s0d, w0d, p1, p2, p5, h40, h41])
      refine pw_intro (l24Bare_ok (F := fun j => F (j + 3)) (c := c.config)) ?_
      rintro _ n43 hn43 rfl
      cases h42 : bareB c.config
      · repeat (first | rw [kz_o] | rw [kz_r0] | simp -dsimp -implicitDefEqProofs only [go_sem, Nat.reduceBEq, Nat.reduceAdd, Nat.reduceLeDiff, Nat.reduceMul, Int.reduceLE, Int.reduceLT, Int.reduceBEq, h1, h2, h3, h4, s0d, w0d, p1, p2, p5, h40, h41])
        exact bad _ (by repeat (first | exact H2.le.refl _ | apply le_push | refine le_up ?_ (by assumption) | refine le_up ?_ (by simp only [hn_up, hn_push] at *; omega))) (by first | (simp only [sOkB, emptyT_def, h1, h2, h4, s0d, w0d, h40, h42, ↓reduceIte, Int.reduceEq, decide_true, decide_false, Bool.true_and, Bool.false_and, Bool.and_false, Bool.and_true, Bool.not_true, Bool.not_false]; done) | (simp only [sOkB, emptyT_def, h1, h2, h4, s0d, w0d, h40, h42, ↓reduceIte, Int.reduceEq, decide_true, decide_false, Bool.true_and, Bool.false_and, Bool.and_false, Bool.and_true, Bool.not_true, Bool.not_false]; simp only [h3, p1, p2, p5, h41, ↓reduceIte, Int.reduceEq, decide_true, decide_false, Bool.true_and, Bool.false_and, Bool.and_false, Bool.and_true, Bool.not_true, Bool.not_false]))
      repeat (first | rw [kz_o] | rw [kz_r0] | simp -dsimp -implicitDefEqProofs only [go_sem, Nat.reduceBEq, Nat.reduceAdd, Nat.reduceLeDiff, Nat.reduceMul, Int.reduceLE, Int.reduceLT, Int.reduceBEq, h1, h2, h3, h4, s0d, w0d, p1, p2, p5, h40, h41])
      exact bad _ (by repeat (first | exact H2.le.refl _ | apply le_push | refine le_up ?_ (by assumption) | refine le_up ?_ (by simp only [hn_up, hn_push] at *; omega))) (by first | (simp only [sOkB, emptyT_def, h1, h2, h4, s0d, w0d, h40, h42, numB, ↓reduceIte, Int.reduceEq, decide_true, decide_false, Bool.true_and, Bool.false_and, Bool.and_false, Bool.and_true, Bool.not_true, Bool.not_false]; done) | (simp only [sOkB, emptyT_def, h1, h2, h4, s0d, w0d, h40, h42, numB, ↓reduceIte, Int.reduceEq, decide_true, decide_false, Bool.true_and, Bool.false_and, Bool.and_false, Bool.and_true, Bool.not_true, Bool.not_false]; simp only [h3, p1, p2, p5, h41, ↓reduceIte, Int.reduceEq, decide_true, decide_false, Bool.true_and, Bool.false_and, Bool.and_false, Bool.and_true, Bool.not_true, Bool.not_false]))
  · have s0d : decide (c.config.seed = 0) = false := by simp only [s0, decide_false]
    repeat (first | rw [kz_o] | rw [kz_r0] | simp -dsimp -implicitDefEqProofs only [go_sem, Nat.reduceBEq, Nat.reduceAdd, Nat.reduceLeDiff, Nat.reduceMul, Int.reduceLE, Int.reduceLT, Int.reduceBEq, s0d])
    refine gz_dec (fun p1 => ?_) (fun p1 => ?_)
    · repeat (first | rw [kz_o] | rw [kz_r0] | simp -dsimp -implicitDefEqProofs only [go_sem, Nat.reduceBEq, Nat.reduceAdd, Nat.reduceLeDiff, Nat.reduceMul, Int.reduceLE, Int.reduceLT, Int.reduceBEq, h1, h2, h3, h4, s0d, p1])
      refine pw_intro (specConfigOk_ok (F := fun j => F (j + 3)) (c := c.config) hf2) ?_
      rintro _ n45 hn45 rfl
      cases h44 : cfgOk c.config
      · repeat (first | rw [kz_o] | rw [kz_r0] | simp -dsimp -implicitDefEqProofs only [go_sem, Nat.reduceBEq, Nat.reduceAdd, Nat.reduceLeDiff, Nat.reduceMul, Int.reduceLE, Int.reduceLT, Int.reduceBEq, h1, h2, h3, h4, s0d, p1])
        exact bad _ (by repeat (first | exact H2.le.refl _ | apply le_push | refine le_up ?_ (by assumption) | refine le_up ?_ (by simp only [hn_up, hn_push] at *; omega))) (by first | (simp only [sOkB, emptyT_def, h1, h2, h4, s0d, h44, ↓reduceIte, Int.reduceEq, decide_true, decide_false, Bool.true_and, Bool.false_and, Bool.and_false, Bool.and_true, Bool.not_true, Bool.not_false]; done) | (simp only [sOkB, emptyT_def, h1, h2, h4, s0d, h44, ↓reduceIte, Int.reduceEq, decide_true, decide_false, Bool.true_and, Bool.false_and, Bool.and_false, Bool.and_true, Bool.not_true, Bool.not_false]; simp only [h3, p1, ↓reduceIte, Int.reduceEq, decide_true, decide_false, Bool.true_and, Bool.false_and, Bool.and_false, Bool.and_true, Bool.not_true, Bool.not_false]))
      repeat (first | rw [kz_o] | rw [kz_r0] | simp -dsimp -implicitDefEqProofs only [go_sem, Nat.reduceBEq, Nat.reduceAdd, Nat.reduceLeDiff, Nat.reduceMul, Int.reduceLE, Int.reduceLT, Int.reduceBEq, h1, h2, h3, h4, s0d, p1])
      refine gz_ndec (fun h46 => ?_) (fun h46 => ?_)
      rotate_left
      · repeat (first | rw [kz_o] | rw [kz_r0] | simp -dsimp -implicitDefEqProofs only [go_sem, Nat.reduceBEq, Nat.reduceAdd, Nat.reduceLeDiff, Nat.reduceMul, Int.reduceLE, Int.reduceLT, Int.reduceBEq, h1, h2, h3, h4, s0d, p1, h44, h46])
        exact bad _ (by repeat (first | exact H2.le.refl _ | apply le_push | refine le_up ?_ (by assumption) | refine le_up ?_ (by simp only [hn_up, hn_push] at *; omega))) (by first | (simp only [sOkB, emptyT_def, h1, h2, h4, s0d, h44, ↓reduceIte, Int.reduceEq, decide_true, decide_false, Bool.true_and, Bool.false_and, Bool.and_false, Bool.and_true, Bool.not_true, Bool.not_false]; done) | (simp only [sOkB, emptyT_def, h1, h2, h4, s0d, h44, ↓reduceIte, Int.reduceEq, decide_true, decide_false, Bool.true_and, Bool.false_and, Bool.and_false, Bool.and_true, Bool.not_true, Bool.not_false]; simp only [h3, p1, h46, ↓reduceIte, Int.reduceEq, decide_true, decide_false, Bool.true_and, Bool.false_and, Bool.and_false, Bool.and_true, Bool.not_true, Bool.not_false]))
      repeat (first | rw [kz_o] | rw [kz_r0] | simp -dsimp -implicitDefEqProofs only [go_sem, Nat.reduceBEq, Nat.reduceAdd, Nat.reduceLeDiff, Nat.reduceMul, Int.reduceLE, Int.reduceLT, Int.reduceBEq, h1, h2, h3, h4, s0d, p1, h44, h46])
      refine gz_ndec (fun h47 => ?_) (fun h47 => ?_)
      rotate_left
      · repeat (first | rw [kz_o] | rw [kz_r0] | simp -dsimp -implicitDefEqProofs only [go_sem, Nat.reduceBEq, Nat.reduceAdd, Nat.reduceLeDiff, Nat.reduceMul, Int.reduceLE, Int.reduceLT, Int.reduceBEq, h1, h2, h3, h4, s0d, p1, h44, h46, h47])
        exact bad _ (by repeat (first | exact H2.le.refl _ | apply le_push | refine le_up ?_ (by assumption) | refine le_up ?_ (by simp only [hn_up, hn_push] at *; omega))) (by first | (simp only [sOkB, emptyT_def, h1, h2, h4, s0d, h44, ↓reduceIte, Int.reduceEq, decide_true, decide_false, Bool.true_and, Bool.false_and, Bool.and_false, Bool.and_true, Bool.not_true, Bool.not_false]; done) | (simp only [sOkB, emptyT_def, h1, h2, h4, s0d, h44, ↓reduceIte, Int.reduceEq, decide_true, decide_false, Bool.true_and, Bool.false_and, Bool.and_false, Bool.and_true, Bool.not_true, Bool.not_false]; simp only [h3, p1, h46, h47, ↓reduceIte, Int.reduceEq, decide_true, decide_false, Bool.true_and, Bool.false_and, Bool.and_false, Bool.and_true, Bool.not_true, Bool.not_false]))
      replace h47 := Decidable.not_not.1 h47
      repeat (first | rw [kz_o] | rw [kz_r0] | simp -dsimp -implicitDefEqProofs only [go_sem, Nat.reduceBEq, Nat.reduceAdd, Nat.reduceLeDiff, Nat.reduceMul, Int.reduceLE, Int.reduceLT, Int.reduceBEq, h1, h2, h3, h4, s0d, p1, h44, h46, h47])
      refine gz_dec (fun h48 => ?_) (fun h48 => ?_)
      · repeat (first | rw [kz_o] | rw [kz_r0] | simp -dsimp -implicitDefEqProofs only [go_sem, Nat.reduceBEq, Nat.reduceAdd, Nat.reduceLeDiff, Nat.reduceMul, Int.reduceLE, Int.reduceLT, Int.reduceBEq, h1, h2, h3, h4, s0d, p1, h44, h46, h47, h48])
        exact bad _ (by repeat (first | exact H2.le.refl _ | apply le_push | refine le_up ?_ (by assumption) | refine le_up ?_ (by simp only [hn_up, hn_push] at *; omega))) (by first | (simp only [sOkB, emptyT_def, h1, h2, h4, s0d, h44, ↓reduceIte, Int.reduceEq, decide_true, decide_false, Bool.true_and, Bool.false_and, Bool.and_false, Bool.and_true, Bool.not_true, Bool.not_false]; done) | (simp only [sOkB, emptyT_def, h1, h2, h4, s0d, h44, ↓reduceIte, Int.reduceEq, decide_true, decide_false, Bool.true_and, Bool.false_and, Bool.and_false, Bool.and_true, Bool.not_true, Bool.not_false]; simp only [h3, p1, h46, h47, h48, ↓reduceIte, Int.reduceEq, decide_true, decide_false, Bool.true_and, Bool.false_and, Bool.and_false, Bool.and_true, Bool.not_true, Bool.not_false]))
      repeat (first | rw [kz_o] | rw [kz_r0] | simp -dsimp -implicitDefEqProofs only [go_sem, Nat.reduceBEq, Nat.reduceAdd, Nat.reduceLeDiff, Nat.reduceMul, Int.reduceLE, Int.reduceLT, Int.reduceBEq, h1, h2, h3, h4, s0d, p1, h44, h46, h47, h48])
      have hok := (show sOkB c = true from (by first | (simp only [sOkB, emptyT_def, h1, h2, h4, s0d, h44, ↓reduceIte, Int.reduceEq, decide_true, decide_false, Bool.true_and, Bool.false_and, Bool.and_false, Bool.and_true, Bool.not_true, Bool.not_false]; done) | (simp only [sOkB, emptyT_def, h1, h2, h4, s0d, h44, ↓reduceIte, Int.reduceEq, decide_true, decide_false, Bool.true_and, Bool.false_and, Bool.and_false, Bool.and_true, Bool.not_true, Bool.not_false]; simp only [h3, p1, h46, h47, h48, ↓reduceIte, Int.reduceEq, decide_true, decide_false, Bool.true_and, Bool.false_and, Bool.and_false, Bool.and_true, Bool.not_true, Bool.not_false])))
      have hok2 := sOk_eq.trans hok
      have hR := good hok
      obtain ⟨ht, hc⟩ := ask1 hok2 p1
      obtain ⟨hs0, hs1, hl, hz⟩ := cfg_facts hc
      obtain ⟨sd, hsd⟩ := Int.eq_ofNat_of_zero_le hs0
      have hst := shortT_size c.text
      have hvs := varT_size sd
      refine dq_intro [(0, []), (1, []), (2, []), (5, []), (6, []), (7, []), (10, []), (11, []), (12, []), (15, []), (16, []), (17, []), (20, []), (21, []), (22, []), (23, []), (3, [7, 12, 17, 22]), (4, []), (8, [12, 17, 22]), (9, []), (13, [17, 22]), (14, []), (18, [22]), (19, []), (24, []), (25, []), (26, [])] (by kernel_rfl) ?_
      repeat (first | rw [kz_o] | rw [kz_r0] | simp -dsimp -implicitDefEqProofs only [go_sem, Nat.reduceBEq, Nat.reduceAdd, Nat.reduceLeDiff, Nat.reduceMul, Int.reduceLE, Int.reduceLT, Int.reduceBEq, h1, h2, h3, h4, s0d, p1, h44, h46, h47, h48, hsd])
      refine pw_intro (l24Short_ok (by omega)) ?_
      rintro _ n3 hn3 rfl
      rw [kz_r]
      refine ⟨by simp -dsimp -implicitDefEqProofs only [go_sem, Nat.reduceBEq, Nat.reduceAdd, Nat.reduceLeDiff, Nat.reduceMul, Int.reduceLE, Int.reduceLT, Int.reduceBEq, h1, h2, h3, h4, s0d, p1, h44, h46, h47, h48, hsd], ?_⟩
      have a1 : (((byteT 1).size + (shortT c.text).size : Nat) : Int) ≤ 9223372036854775807 := by rw [byteT_size]; omega
      repeat (first | rw [kz_o] | rw [kz_r0] | simp -dsimp -implicitDefEqProofs only [go_sem, Nat.reduceBEq, Nat.reduceAdd, Nat.reduceLeDiff, Nat.reduceMul, Int.reduceLE, Int.reduceLT, Int.reduceBEq, h1, h2, h3, h4, s0d, p1, h44, h46, h47, h48, hsd, a1])
      refine pw_intro l24Byte_ok ?_
      rintro _ n4 hn4 rfl
      rw [kz_r]
      refine ⟨by simp -dsimp -implicitDefEqProofs only [go_sem, Nat.reduceBEq, Nat.reduceAdd, Nat.reduceLeDiff, Nat.reduceMul, Int.reduceLE, Int.reduceLT, Int.reduceBEq, h1, h2, h3, h4, s0d, p1, h44, h46, h47, h48, hsd, a1], ?_⟩
      have a2 : (((byteT 1 ++ shortT c.text).size + (byteT c.config.top).size : Nat) : Int) ≤ 9223372036854775807 := by simp only [ByteArray.size_append, byteT_size]; omega
      repeat (first | rw [kz_o] | rw [kz_r0] | simp -dsimp -implicitDefEqProofs only [go_sem, Nat.reduceBEq, Nat.reduceAdd, Nat.reduceLeDiff, Nat.reduceMul, Int.reduceLE, Int.reduceLT, Int.reduceBEq, h1, h2, h3, h4, s0d, p1, h44, h46, h47, h48, hsd, a1, a2])
      refine pw_intro (l01Var_ok (by omega)) ?_
      rintro _ n5 hn5 rfl
      rw [kz_r]
      refine ⟨by simp -dsimp -implicitDefEqProofs only [go_sem, Nat.reduceBEq, Nat.reduceAdd, Nat.reduceLeDiff, Nat.reduceMul, Int.reduceLE, Int.reduceLT, Int.reduceBEq, h1, h2, h3, h4, s0d, p1, h44, h46, h47, h48, hsd, a1], ?_⟩
      have a3 : ((((byteT 1 ++ shortT c.text) ++ byteT c.config.top).size + (varT sd).size : Nat) : Int) ≤ 9223372036854775807 := by simp only [ByteArray.size_append, byteT_size]; omega
      repeat (first | rw [kz_o] | rw [kz_r0] | simp -dsimp -implicitDefEqProofs only [go_sem, Nat.reduceBEq, Nat.reduceAdd, Nat.reduceLeDiff, Nat.reduceMul, Int.reduceLE, Int.reduceLT, Int.reduceBEq, h1, h2, h3, h4, s0d, p1, h44, h46, h47, h48, hsd, a1, a2, a3])
      refine pw_intro l24Byte_ok ?_
      rintro _ n6 hn6 rfl
      rw [kz_r]
      refine ⟨by simp -dsimp -implicitDefEqProofs only [go_sem, Nat.reduceBEq, Nat.reduceAdd, Nat.reduceLeDiff, Nat.reduceMul, Int.reduceLE, Int.reduceLT, Int.reduceBEq, h1, h2, h3, h4, s0d, p1, h44, h46, h47, h48, hsd, a1], ?_⟩
      have a4 : (((((byteT 1 ++ shortT c.text) ++ byteT c.config.top) ++ varT sd).size + (byteT c.config.new).size : Nat) : Int) ≤ 9223372036854775807 := by simp only [ByteArray.size_append, byteT_size]; omega
      repeat (first | rw [kz_o] | rw [kz_r0] | simp -dsimp -implicitDefEqProofs only [go_sem, Nat.reduceBEq, Nat.reduceAdd, Nat.reduceLeDiff, Nat.reduceMul, Int.reduceLE, Int.reduceLT, Int.reduceBEq, h1, h2, h3, h4, s0d, p1, h44, h46, h47, h48, hsd, a1, a2, a3, a4])
      refine pw_intro l24Byte_ok ?_
      rintro _ n7 hn7 rfl
      rw [kz_r]
      refine ⟨by simp -dsimp -implicitDefEqProofs only [go_sem, Nat.reduceBEq, Nat.reduceAdd, Nat.reduceLeDiff, Nat.reduceMul, Int.reduceLE, Int.reduceLT, Int.reduceBEq, h1, h2, h3, h4, s0d, p1, h44, h46, h47, h48, hsd, a1], ?_⟩
      have a5 : ((((((byteT 1 ++ shortT c.text) ++ byteT c.config.top) ++ varT sd) ++ byteT c.config.new).size + (byteT c.config.stops.length).size : Nat) : Int) ≤ 9223372036854775807 := by simp only [ByteArray.size_append, byteT_size]; omega
      repeat (first | rw [kz_o] | rw [kz_r0] | simp -dsimp -implicitDefEqProofs only [go_sem, Nat.reduceBEq, Nat.reduceAdd, Nat.reduceLeDiff, Nat.reduceMul, Int.reduceLE, Int.reduceLT, Int.reduceBEq, h1, h2, h3, h4, s0d, p1, h44, h46, h47, h48, hsd, a1, a2, a3, a4, a5])
      have hT : askT c = c.config.stops.foldl (fun s x => s ++ shortT x) (((((byteT 1 ++ shortT c.text) ++ byteT c.config.top) ++ varT sd) ++ byteT c.config.new) ++ byteT c.config.stops.length) := by
        rw [askT, if_pos p1, hsd, Int.toNat_natCast]; simp only [ByteArray.append_assoc]
      have hB : (((((byteT 1 ++ shortT c.text) ++ byteT c.config.top) ++ varT sd) ++ byteT c.config.new) ++ byteT c.config.stops.length).size ≤ 1000001000 := by simp only [ByteArray.size_append, byteT_size]; omega
      generalize hb0 : ((((byteT 1 ++ shortT c.text) ++ byteT c.config.top) ++ varT sd) ++ byteT c.config.new) ++ byteT c.config.stops.length = base at hT hB ⊢
      refine lz_keep [1] (fun m e h' => h.le h' ∧ hg h' (hn h .mk) .mk = some ⟨8, xAsk F c⟩ ∧ ∃ (k : Nat) (s : ByteArray), look e 6 .mk = .raw (.int .i64 k) ∧ look e 4 .mk = .raw (.string s) ∧ m + k = c.config.stops.length ∧ s = (c.config.stops.take k).foldl (fun s x => s ++ shortT x) base ∧ s.size ≤ base.size + k * 1000) c.config.stops.length ?_ ?_
      · exact ⟨by repeat (first | exact H2.le.refl _ | apply le_push | refine le_up ?_ (by assumption) | refine le_up ?_ (by simp only [hn_up, hn_push] at *; omega)), by simp -dsimp -implicitDefEqProofs only [go_sem, Nat.reduceBEq, Nat.reduceAdd, Nat.reduceLeDiff, Nat.reduceMul, Int.reduceLE, Int.reduceLT, Int.reduceBEq, h1, h2, h3, h4, s0d, p1, h44, h46, h47, h48, hsd], 0, base, by simp -dsimp -implicitDefEqProofs only [go_sem, Nat.reduceBEq, Nat.reduceAdd, Nat.reduceLeDiff, Nat.reduceMul, Int.reduceLE, Int.reduceLT, Int.reduceBEq], by simp -dsimp -implicitDefEqProofs only [go_sem, Nat.reduceBEq, Nat.reduceAdd, Nat.reduceLeDiff, Nat.reduceMul, Int.reduceLE, Int.reduceLT, Int.reduceBEq, hb0], by omega, rfl, by omega⟩
      · rintro m e h' hks ⟨hle, hrow, k, s, e6, e4, hk, hs, hsz⟩
        simp -dsimp -implicitDefEqProofs only [go_sem, Nat.reduceBEq, Nat.reduceAdd, Nat.reduceLeDiff, Nat.reduceMul, Int.reduceLE, Int.reduceLT, Int.reduceBEq] at hks
        repeat (first | rw [kz_o] | rw [kz_r0] | simp -dsimp -implicitDefEqProofs only [go_sem, Nat.reduceBEq, Nat.reduceAdd, Nat.reduceLeDiff, Nat.reduceMul, Int.reduceLE, Int.reduceLT, Int.reduceBEq, hks, hrow, e6, e4])
        refine gz_dec (fun h2 => ?_) (fun h2 => ?_)
        · have h3 : k < c.config.stops.length := by omega
          have h8 := hz k h3
          have h9 := shortT_size (c.config.stops.getD k default)
          repeat (first | rw [kz_o] | rw [kz_r0] | simp -dsimp -implicitDefEqProofs only [go_sem, Nat.reduceBEq, Nat.reduceAdd, Nat.reduceLeDiff, Nat.reduceMul, Int.reduceLE, Int.reduceLT, Int.reduceBEq, hks, hrow, e6, e4, h3])
          refine pw_intro (l24Short_ok (by omega)) ?_
          rintro _ n8 hn8 rfl
          have a6 : ((s.size + (shortT (c.config.stops.getD k default)).size : Nat) : Int) ≤ 9223372036854775807 := by omega
          repeat (first | rw [kz_o] | rw [kz_r0] | simp -dsimp -implicitDefEqProofs only [go_sem, Nat.reduceBEq, Nat.reduceAdd, Nat.reduceLeDiff, Nat.reduceMul, Int.reduceLE, Int.reduceLT, Int.reduceBEq, hks, hrow, e6, e4, h3, a6, wrap_succ h3 hf2])
          exact nx_keep (m - 1) (by omega) (by simp -dsimp -implicitDefEqProofs only [go_sem, Nat.reduceBEq, Nat.reduceAdd, Nat.reduceLeDiff, Nat.reduceMul, Int.reduceLE, Int.reduceLT, Int.reduceBEq, hks]) ⟨le_up hle hn8, hrow, k + 1, s ++ shortT (c.config.stops.getD k default), by simp -dsimp -implicitDefEqProofs only [go_sem, Nat.reduceBEq, Nat.reduceAdd, Nat.reduceLeDiff, Nat.reduceMul, Int.reduceLE, Int.reduceLT, Int.reduceBEq], by simp -dsimp -implicitDefEqProofs only [go_sem, Nat.reduceBEq, Nat.reduceAdd, Nat.reduceLeDiff, Nat.reduceMul, Int.reduceLE, Int.reduceLT, Int.reduceBEq], by omega, by rw [foldl_take h3, ← hs], by rw [ByteArray.size_append]; omega⟩
        · repeat (first | rw [kz_o] | rw [kz_r0] | simp -dsimp -implicitDefEqProofs only [go_sem, Nat.reduceBEq, Nat.reduceAdd, Nat.reduceLeDiff, Nat.reduceMul, Int.reduceLE, Int.reduceLT, Int.reduceBEq, hks, hrow, e6, e4])
          exact fin _ _ _ hle (by rw [hR, hT, hs, foldl_all (by omega)])
    repeat (first | rw [kz_o] | rw [kz_r0] | simp -dsimp -implicitDefEqProofs only [go_sem, Nat.reduceBEq, Nat.reduceAdd, Nat.reduceLeDiff, Nat.reduceMul, Int.reduceLE, Int.reduceLT, Int.reduceBEq, h1, h2, h3, h4, s0d, p1])
    refine gz_dec (fun p2 => ?_) (fun p2 => ?_)
    · repeat (first | rw [kz_o] | rw [kz_r0] | simp -dsimp -implicitDefEqProofs only [go_sem, Nat.reduceBEq, Nat.reduceAdd, Nat.reduceLeDiff, Nat.reduceMul, Int.reduceLE, Int.reduceLT, Int.reduceBEq, h1, h2, h3, h4, s0d, p1, p2])
      refine gz_intro (fun h49 => ?_) (fun h49 => ?_)
      rotate_left
      · try simp only [Bool.not_not, Bool.not_eq_true', Bool.not_eq_false'] at h49
        repeat (first | rw [kz_o] | rw [kz_r0] | simp -dsimp -implicitDefEqProofs only [go_sem, Nat.reduceBEq, Nat.reduceAdd, Nat.reduceLeDiff, Nat.reduceMul, Int.reduceLE, Int.reduceLT, Int.reduceBEq, h1, h2, h3, h4, s0d, p1, p2, h49])
        exact bad _ (by repeat (first | exact H2.le.refl _ | apply le_push | refine le_up ?_ (by assumption) | refine le_up ?_ (by simp only [hn_up, hn_push] at *; omega))) (by first | (simp only [sOkB, emptyT_def, h1, h2, h4, s0d, h49, ↓reduceIte, Int.reduceEq, decide_true, decide_false, Bool.true_and, Bool.false_and, Bool.and_false, Bool.and_true, Bool.not_true, Bool.not_false]; done) | (simp only [sOkB, emptyT_def, h1, h2, h4, s0d, h49, ↓reduceIte, Int.reduceEq, decide_true, decide_false, Bool.true_and, Bool.false_and, Bool.and_false, Bool.and_true, Bool.not_true, Bool.not_false]; simp only [h3, p1, p2, ↓reduceIte, Int.reduceEq, decide_true, decide_false, Bool.true_and, Bool.false_and, Bool.and_false, Bool.and_true, Bool.not_true, Bool.not_false]))
      try simp only [Bool.not_not, Bool.not_eq_true', Bool.not_eq_false'] at h49
      repeat (first | rw [kz_o] | rw [kz_r0] | simp -dsimp -implicitDefEqProofs only [go_sem, Nat.reduceBEq, Nat.reduceAdd, Nat.reduceLeDiff, Nat.reduceMul, Int.reduceLE, Int.reduceLT, Int.reduceBEq, h1, h2, h3, h4, s0d, p1, p2, h49])
      refine gz_ndec (fun h50 => ?_) (fun h50 => ?_)
      rotate_left
      · repeat (first | rw [kz_o] | rw [kz_r0] | simp -dsimp -implicitDefEqProofs only [go_sem, Nat.reduceBEq, Nat.reduceAdd, Nat.reduceLeDiff, Nat.reduceMul, Int.reduceLE, Int.reduceLT, Int.reduceBEq, h1, h2, h3, h4, s0d, p1, p2, h49, h50])
        exact bad _ (by repeat (first | exact H2.le.refl _ | apply le_push | refine le_up ?_ (by assumption) | refine le_up ?_ (by simp only [hn_up, hn_push] at *; omega))) (by first | (simp only [sOkB, emptyT_def, h1, h2, h4, s0d, h49, ↓reduceIte, Int.reduceEq, decide_true, decide_false, Bool.true_and, Bool.false_and, Bool.and_false, Bool.and_true, Bool.not_true, Bool.not_false]; done) | (simp only [sOkB, emptyT_def, h1, h2, h4, s0d, h49, ↓reduceIte, Int.reduceEq, decide_true, decide_false, Bool.true_and, Bool.false_and, Bool.and_false, Bool.and_true, Bool.not_true, Bool.not_false]; simp only [h3, p1, p2, h50, ↓reduceIte, Int.reduceEq, decide_true, decide_false, Bool.true_and, Bool.false_and, Bool.and_false, Bool.and_true, Bool.not_true, Bool.not_false]))
      repeat (first | rw [kz_o] | rw [kz_r0] | simp -dsimp -implicitDefEqProofs only [go_sem, Nat.reduceBEq, Nat.reduceAdd, Nat.reduceLeDiff, Nat.reduceMul, Int.reduceLE, Int.reduceLT, Int.reduceBEq, h1, h2, h3, h4, s0d, p1, p2, h49, h50])
      refine pw_intro (l24Bare_ok (F := fun j => F (j + 3)) (c := c.config)) ?_
      rintro _ n52 hn52 rfl
      cases h51 : bareB c.config
      · repeat (first | rw [kz_o] | rw [kz_r0] | simp -dsimp -implicitDefEqProofs only [go_sem, Nat.reduceBEq, Nat.reduceAdd, Nat.reduceLeDiff, Nat.reduceMul, Int.reduceLE, Int.reduceLT, Int.reduceBEq, h1, h2, h3, h4, s0d, p1, p2, h49, h50])
        exact bad _ (by repeat (first | exact H2.le.refl _ | apply le_push | refine le_up ?_ (by assumption) | refine le_up ?_ (by simp only [hn_up, hn_push] at *; omega))) (by first | (simp only [sOkB, emptyT_def, h1, h2, h4, s0d, h49, h51, ↓reduceIte, Int.reduceEq, decide_true, decide_false, Bool.true_and, Bool.false_and, Bool.and_false, Bool.and_true, Bool.not_true, Bool.not_false]; done) | (simp only [sOkB, emptyT_def, h1, h2, h4, s0d, h49, h51, ↓reduceIte, Int.reduceEq, decide_true, decide_false, Bool.true_and, Bool.false_and, Bool.and_false, Bool.and_true, Bool.not_true, Bool.not_false]; simp only [h3, p1, p2, h50, ↓reduceIte, Int.reduceEq, decide_true, decide_false, Bool.true_and, Bool.false_and, Bool.and_false, Bool.and_true, Bool.not_true, Bool.not_false]))
      repeat (first | rw [kz_o] | rw [kz_r0] | simp -dsimp -implicitDefEqProofs only [go_sem, Nat.reduceBEq, Nat.reduceAdd, Nat.reduceLeDiff, Nat.reduceMul, Int.reduceLE, Int.reduceLT, Int.reduceBEq, h1, h2, h3, h4, s0d, p1, p2, h49, h50])
      refine wz_intro l01In_ok ?_
      rintro _ h' ⟨rfl, rfl⟩
      cases h53 : inI c.config.seed 0 1000000000
      · repeat (first | rw [kz_o] | rw [kz_r0] | simp -dsimp -implicitDefEqProofs only [go_sem, Nat.reduceBEq, Nat.reduceAdd, Nat.reduceLeDiff, Nat.reduceMul, Int.reduceLE, Int.reduceLT, Int.reduceBEq, h1, h2, h3, h4, s0d, p1, p2, h49, h50, h51])
        exact bad _ (by repeat (first | exact H2.le.refl _ | apply le_push | refine le_up ?_ (by assumption) | refine le_up ?_ (by simp only [hn_up, hn_push] at *; omega))) (by first | (simp only [sOkB, emptyT_def, h1, h2, h4, s0d, h49, h51, h53, ↓reduceIte, Int.reduceEq, decide_true, decide_false, Bool.true_and, Bool.false_and, Bool.and_false, Bool.and_true, Bool.not_true, Bool.not_false]; done) | (simp only [sOkB, emptyT_def, h1, h2, h4, s0d, h49, h51, h53, ↓reduceIte, Int.reduceEq, decide_true, decide_false, Bool.true_and, Bool.false_and, Bool.and_false, Bool.and_true, Bool.not_true, Bool.not_false]; simp only [h3, p1, p2, h50, ↓reduceIte, Int.reduceEq, decide_true, decide_false, Bool.true_and, Bool.false_and, Bool.and_false, Bool.and_true, Bool.not_true, Bool.not_false]))
      repeat (first | rw [kz_o] | rw [kz_r0] | simp -dsimp -implicitDefEqProofs only [go_sem, Nat.reduceBEq, Nat.reduceAdd, Nat.reduceLeDiff, Nat.reduceMul, Int.reduceLE, Int.reduceLT, Int.reduceBEq, h1, h2, h3, h4, s0d, p1, p2, h49, h50, h51])
      refine wz_intro l01In_ok ?_
      rintro _ h' ⟨rfl, rfl⟩
      cases h54 : inI c.config.new 1 24
      · repeat (first | rw [kz_o] | rw [kz_r0] | simp -dsimp -implicitDefEqProofs only [go_sem, Nat.reduceBEq, Nat.reduceAdd, Nat.reduceLeDiff, Nat.reduceMul, Int.reduceLE, Int.reduceLT, Int.reduceBEq, h1, h2, h3, h4, s0d, p1, p2, h49, h50, h51, h53])
        exact bad _ (by repeat (first | exact H2.le.refl _ | apply le_push | refine le_up ?_ (by assumption) | refine le_up ?_ (by simp only [hn_up, hn_push] at *; omega))) (by first | (simp only [sOkB, emptyT_def, h1, h2, h4, s0d, h49, h51, h53, h54, ↓reduceIte, Int.reduceEq, decide_true, decide_false, Bool.true_and, Bool.false_and, Bool.and_false, Bool.and_true, Bool.not_true, Bool.not_false]; done) | (simp only [sOkB, emptyT_def, h1, h2, h4, s0d, h49, h51, h53, h54, ↓reduceIte, Int.reduceEq, decide_true, decide_false, Bool.true_and, Bool.false_and, Bool.and_false, Bool.and_true, Bool.not_true, Bool.not_false]; simp only [h3, p1, p2, h50, ↓reduceIte, Int.reduceEq, decide_true, decide_false, Bool.true_and, Bool.false_and, Bool.and_false, Bool.and_true, Bool.not_true, Bool.not_false]))
      repeat (first | rw [kz_o] | rw [kz_r0] | simp -dsimp -implicitDefEqProofs only [go_sem, Nat.reduceBEq, Nat.reduceAdd, Nat.reduceLeDiff, Nat.reduceMul, Int.reduceLE, Int.reduceLT, Int.reduceBEq, h1, h2, h3, h4, s0d, p1, p2, h49, h50, h51, h53])
      have hok := (show sOkB c = true from (by first | (simp only [sOkB, emptyT_def, h1, h2, h4, s0d, h49, h51, h53, h54, ↓reduceIte, Int.reduceEq, decide_true, decide_false, Bool.true_and, Bool.false_and, Bool.and_false, Bool.and_true, Bool.not_true, Bool.not_false]; done) | (simp only [sOkB, emptyT_def, h1, h2, h4, s0d, h49, h51, h53, h54, ↓reduceIte, Int.reduceEq, decide_true, decide_false, Bool.true_and, Bool.false_and, Bool.and_false, Bool.and_true, Bool.not_true, Bool.not_false]; simp only [h3, p1, p2, h50, ↓reduceIte, Int.reduceEq, decide_true, decide_false, Bool.true_and, Bool.false_and, Bool.and_false, Bool.and_true, Bool.not_true, Bool.not_false])))
      have hok2 := sOk_eq.trans hok
      have hR := good hok
      obtain ⟨hs0, hs1⟩ := ask2 hok2 p2
      obtain ⟨sd, hsd⟩ := Int.eq_ofNat_of_zero_le hs0
      have hvs := varT_size sd
      refine dq_intro [(0, []), (1, []), (2, []), (5, []), (6, []), (7, []), (10, []), (11, []), (12, []), (3, [7, 12]), (4, []), (8, [12]), (9, []), (13, []), (14, []), (15, []), (16, [])] (by kernel_rfl) ?_
      repeat (first | rw [kz_o] | rw [kz_r0] | simp -dsimp -implicitDefEqProofs only [go_sem, Nat.reduceBEq, Nat.reduceAdd, Nat.reduceLeDiff, Nat.reduceMul, Int.reduceLE, Int.reduceLT, Int.reduceBEq, h1, h2, h3, h4, s0d, p1, p2, h49, h50, h51, h53, h54, hsd])
      refine pw_intro l24Byte_ok ?_
      rintro _ n3 hn3 rfl
      rw [kz_r]
      refine ⟨by simp -dsimp -implicitDefEqProofs only [go_sem, Nat.reduceBEq, Nat.reduceAdd, Nat.reduceLeDiff, Nat.reduceMul, Int.reduceLE, Int.reduceLT, Int.reduceBEq, h1, h2, h3, h4, s0d, p1, p2, h49, h50, h51, h53, h54, hsd], ?_⟩
      have a1 : (((byteT 2).size + (byteT c.pos).size : Nat) : Int) ≤ 9223372036854775807 := by simp only [byteT_size]; omega
      repeat (first | rw [kz_o] | rw [kz_r0] | simp -dsimp -implicitDefEqProofs only [go_sem, Nat.reduceBEq, Nat.reduceAdd, Nat.reduceLeDiff, Nat.reduceMul, Int.reduceLE, Int.reduceLT, Int.reduceBEq, h1, h2, h3, h4, s0d, p1, p2, h49, h50, h51, h53, h54, hsd, a1])
      refine pw_intro (l01Var_ok (by omega)) ?_
      rintro _ n4 hn4 rfl
      rw [kz_r]
      refine ⟨by simp -dsimp -implicitDefEqProofs only [go_sem, Nat.reduceBEq, Nat.reduceAdd, Nat.reduceLeDiff, Nat.reduceMul, Int.reduceLE, Int.reduceLT, Int.reduceBEq, h1, h2, h3, h4, s0d, p1, p2, h49, h50, h51, h53, h54, hsd], ?_⟩
      have a2 : (((byteT 2 ++ byteT c.pos).size + (varT sd).size : Nat) : Int) ≤ 9223372036854775807 := by simp only [ByteArray.size_append, byteT_size]; omega
      repeat (first | rw [kz_o] | rw [kz_r0] | simp -dsimp -implicitDefEqProofs only [go_sem, Nat.reduceBEq, Nat.reduceAdd, Nat.reduceLeDiff, Nat.reduceMul, Int.reduceLE, Int.reduceLT, Int.reduceBEq, h1, h2, h3, h4, s0d, p1, p2, h49, h50, h51, h53, h54, hsd, a1, a2])
      refine pw_intro l24Byte_ok ?_
      rintro _ n5 hn5 rfl
      rw [kz_r]
      refine ⟨by simp -dsimp -implicitDefEqProofs only [go_sem, Nat.reduceBEq, Nat.reduceAdd, Nat.reduceLeDiff, Nat.reduceMul, Int.reduceLE, Int.reduceLT, Int.reduceBEq, h1, h2, h3, h4, s0d, p1, p2, h49, h50, h51, h53, h54, hsd], ?_⟩
      have a3 : ((((byteT 2 ++ byteT c.pos) ++ varT sd).size + (byteT c.config.new).size : Nat) : Int) ≤ 9223372036854775807 := by simp only [ByteArray.size_append, byteT_size]; omega
      repeat (first | rw [kz_o] | rw [kz_r0] | simp -dsimp -implicitDefEqProofs only [go_sem, Nat.reduceBEq, Nat.reduceAdd, Nat.reduceLeDiff, Nat.reduceMul, Int.reduceLE, Int.reduceLT, Int.reduceBEq, h1, h2, h3, h4, s0d, p1, p2, h49, h50, h51, h53, h54, hsd, a1, a2, a3])
      exact fin _ _ _ (by repeat (first | exact H2.le.refl _ | apply le_push | refine le_up ?_ (by assumption) | refine le_up ?_ (by simp only [hn_up, hn_push] at *; omega))) (by rw [hR, askT, if_neg p1, if_pos p2, hsd, Int.toNat_natCast]; simp only [ByteArray.append_assoc])
    repeat (first | rw [kz_o] | rw [kz_r0] | simp -dsimp -implicitDefEqProofs only [go_sem, Nat.reduceBEq, Nat.reduceAdd, Nat.reduceLeDiff, Nat.reduceMul, Int.reduceLE, Int.reduceLT, Int.reduceBEq, h1, h2, h3, h4, s0d, p1, p2])
    refine gz_dec (fun p5 => ?_) (fun p5 => ?_)
    · repeat (first | rw [kz_o] | rw [kz_r0] | simp -dsimp -implicitDefEqProofs only [go_sem, Nat.reduceBEq, Nat.reduceAdd, Nat.reduceLeDiff, Nat.reduceMul, Int.reduceLE, Int.reduceLT, Int.reduceBEq, h1, h2, h3, h4, s0d, p1, p2, p5])
      refine gz_intro (fun h55 => ?_) (fun h55 => ?_)
      rotate_left
      · try simp only [Bool.not_not, Bool.not_eq_true', Bool.not_eq_false'] at h55
        repeat (first | rw [kz_o] | rw [kz_r0] | simp -dsimp -implicitDefEqProofs only [go_sem, Nat.reduceBEq, Nat.reduceAdd, Nat.reduceLeDiff, Nat.reduceMul, Int.reduceLE, Int.reduceLT, Int.reduceBEq, h1, h2, h3, h4, s0d, p1, p2, p5, h55])
        exact bad _ (by repeat (first | exact H2.le.refl _ | apply le_push | refine le_up ?_ (by assumption) | refine le_up ?_ (by simp only [hn_up, hn_push] at *; omega))) (by first | (simp only [sOkB, emptyT_def, h1, h2, h4, s0d, h55, ↓reduceIte, Int.reduceEq, decide_true, decide_false, Bool.true_and, Bool.false_and, Bool.and_false, Bool.and_true, Bool.not_true, Bool.not_false]; done) | (simp only [sOkB, emptyT_def, h1, h2, h4, s0d, h55, ↓reduceIte, Int.reduceEq, decide_true, decide_false, Bool.true_and, Bool.false_and, Bool.and_false, Bool.and_true, Bool.not_true, Bool.not_false]; simp only [h3, p1, p2, p5, ↓reduceIte, Int.reduceEq, decide_true, decide_false, Bool.true_and, Bool.false_and, Bool.and_false, Bool.and_true, Bool.not_true, Bool.not_false]))
      try simp only [Bool.not_not, Bool.not_eq_true', Bool.not_eq_false'] at h55
      repeat (first | rw [kz_o] | rw [kz_r0] | simp -dsimp -implicitDefEqProofs only [go_sem, Nat.reduceBEq, Nat.reduceAdd, Nat.reduceLeDiff, Nat.reduceMul, Int.reduceLE, Int.reduceLT, Int.reduceBEq, h1, h2, h3, h4, s0d, p1, p2, p5, h55])
      refine gz_ndec (fun h56 => ?_) (fun h56 => ?_)
      rotate_left
      · repeat (first | rw [kz_o] | rw [kz_r0] | simp -dsimp -implicitDefEqProofs only [go_sem, Nat.reduceBEq, Nat.reduceAdd, Nat.reduceLeDiff, Nat.reduceMul, Int.reduceLE, Int.reduceLT, Int.reduceBEq, h1, h2, h3, h4, s0d, p1, p2, p5, h55, h56])
        exact bad _ (by repeat (first | exact H2.le.refl _ | apply le_push | refine le_up ?_ (by assumption) | refine le_up ?_ (by simp only [hn_up, hn_push] at *; omega))) (by first | (simp only [sOkB, emptyT_def, h1, h2, h4, s0d, h55, ↓reduceIte, Int.reduceEq, decide_true, decide_false, Bool.true_and, Bool.false_and, Bool.and_false, Bool.and_true, Bool.not_true, Bool.not_false]; done) | (simp only [sOkB, emptyT_def, h1, h2, h4, s0d, h55, ↓reduceIte, Int.reduceEq, decide_true, decide_false, Bool.true_and, Bool.false_and, Bool.and_false, Bool.and_true, Bool.not_true, Bool.not_false]; simp only [h3, p1, p2, p5, h56, ↓reduceIte, Int.reduceEq, decide_true, decide_false, Bool.true_and, Bool.false_and, Bool.and_false, Bool.and_true, Bool.not_true, Bool.not_false]))
      replace h56 := Decidable.not_not.1 h56
      repeat (first | rw [kz_o] | rw [kz_r0] | simp -dsimp -implicitDefEqProofs only [go_sem, Nat.reduceBEq, Nat.reduceAdd, Nat.reduceLeDiff, Nat.reduceMul, Int.reduceLE, Int.reduceLT, Int.reduceBEq, h1, h2, h3, h4, s0d, p1, p2, p5, h55, h56])
      refine pw_intro (l24Bare_ok (F := fun j => F (j + 3)) (c := c.config)) ?_
      rintro _ n58 hn58 rfl
      cases h57 : bareB c.config
      · repeat (first | rw [kz_o] | rw [kz_r0] | simp -dsimp -implicitDefEqProofs only [go_sem, Nat.reduceBEq, Nat.reduceAdd, Nat.reduceLeDiff, Nat.reduceMul, Int.reduceLE, Int.reduceLT, Int.reduceBEq, h1, h2, h3, h4, s0d, p1, p2, p5, h55, h56])
        exact bad _ (by repeat (first | exact H2.le.refl _ | apply le_push | refine le_up ?_ (by assumption) | refine le_up ?_ (by simp only [hn_up, hn_push] at *; omega))) (by first | (simp only [sOkB, emptyT_def, h1, h2, h4, s0d, h55, h57, ↓reduceIte, Int.reduceEq, decide_true, decide_false, Bool.true_and, Bool.false_and, Bool.and_false, Bool.and_true, Bool.not_true, Bool.not_false]; done) | (simp only [sOkB, emptyT_def, h1, h2, h4, s0d, h55, h57, ↓reduceIte, Int.reduceEq, decide_true, decide_false, Bool.true_and, Bool.false_and, Bool.and_false, Bool.and_true, Bool.not_true, Bool.not_false]; simp only [h3, p1, p2, p5, h56, ↓reduceIte, Int.reduceEq, decide_true, decide_false, Bool.true_and, Bool.false_and, Bool.and_false, Bool.and_true, Bool.not_true, Bool.not_false]))
      repeat (first | rw [kz_o] | rw [kz_r0] | simp -dsimp -implicitDefEqProofs only [go_sem, Nat.reduceBEq, Nat.reduceAdd, Nat.reduceLeDiff, Nat.reduceMul, Int.reduceLE, Int.reduceLT, Int.reduceBEq, h1, h2, h3, h4, s0d, p1, p2, p5, h55, h56])
      exact bad _ (by repeat (first | exact H2.le.refl _ | apply le_push | refine le_up ?_ (by assumption) | refine le_up ?_ (by simp only [hn_up, hn_push] at *; omega))) (by first | (simp only [sOkB, emptyT_def, h1, h2, h4, s0d, h55, h57, numB, ↓reduceIte, Int.reduceEq, decide_true, decide_false, Bool.true_and, Bool.false_and, Bool.and_false, Bool.and_true, Bool.not_true, Bool.not_false]; done) | (simp only [sOkB, emptyT_def, h1, h2, h4, s0d, h55, h57, numB, ↓reduceIte, Int.reduceEq, decide_true, decide_false, Bool.true_and, Bool.false_and, Bool.and_false, Bool.and_true, Bool.not_true, Bool.not_false]; simp only [h3, p1, p2, p5, h56, ↓reduceIte, Int.reduceEq, decide_true, decide_false, Bool.true_and, Bool.false_and, Bool.and_false, Bool.and_true, Bool.not_true, Bool.not_false]))
    repeat (first | rw [kz_o] | rw [kz_r0] | simp -dsimp -implicitDefEqProofs only [go_sem, Nat.reduceBEq, Nat.reduceAdd, Nat.reduceLeDiff, Nat.reduceMul, Int.reduceLE, Int.reduceLT, Int.reduceBEq, h1, h2, h3, h4, s0d, p1, p2, p5])
    refine gz_intro (fun h59 => ?_) (fun h59 => ?_)
    rotate_left
    · try simp only [Bool.not_not, Bool.not_eq_true', Bool.not_eq_false'] at h59
      repeat (first | rw [kz_o] | rw [kz_r0] | simp -dsimp -implicitDefEqProofs only [go_sem, Nat.reduceBEq, Nat.reduceAdd, Nat.reduceLeDiff, Nat.reduceMul, Int.reduceLE, Int.reduceLT, Int.reduceBEq, h1, h2, h3, h4, s0d, p1, p2, p5, h59])
      exact bad _ (by repeat (first | exact H2.le.refl _ | apply le_push | refine le_up ?_ (by assumption) | refine le_up ?_ (by simp only [hn_up, hn_push] at *; omega))) (by first | (simp only [sOkB, emptyT_def, h1, h2, h4, s0d, h59, ↓reduceIte, Int.reduceEq, decide_true, decide_false, Bool.true_and, Bool.false_and, Bool.and_false, Bool.and_true, Bool.not_true, Bool.not_false]; done) | (simp only [sOkB, emptyT_def, h1, h2, h4, s0d, h59, ↓reduceIte, Int.reduceEq, decide_true, decide_false, Bool.true_and, Bool.false_and, Bool.and_false, Bool.and_true, Bool.not_true, Bool.not_false]; simp only [h3, p1, p2, p5, ↓reduceIte, Int.reduceEq, decide_true, decide_false, Bool.true_and, Bool.false_and, Bool.and_false, Bool.and_true, Bool.not_true, Bool.not_false]))
    try simp only [Bool.not_not, Bool.not_eq_true', Bool.not_eq_false'] at h59
    repeat (first | rw [kz_o] | rw [kz_r0] | simp -dsimp -implicitDefEqProofs only [go_sem, Nat.reduceBEq, Nat.reduceAdd, Nat.reduceLeDiff, Nat.reduceMul, Int.reduceLE, Int.reduceLT, Int.reduceBEq, h1, h2, h3, h4, s0d, p1, p2, p5, h59])
    refine gz_ndec (fun h60 => ?_) (fun h60 => ?_)
    rotate_left
    · repeat (first | rw [kz_o] | rw [kz_r0] | simp -dsimp -implicitDefEqProofs only [go_sem, Nat.reduceBEq, Nat.reduceAdd, Nat.reduceLeDiff, Nat.reduceMul, Int.reduceLE, Int.reduceLT, Int.reduceBEq, h1, h2, h3, h4, s0d, p1, p2, p5, h59, h60])
      exact bad _ (by repeat (first | exact H2.le.refl _ | apply le_push | refine le_up ?_ (by assumption) | refine le_up ?_ (by simp only [hn_up, hn_push] at *; omega))) (by first | (simp only [sOkB, emptyT_def, h1, h2, h4, s0d, h59, ↓reduceIte, Int.reduceEq, decide_true, decide_false, Bool.true_and, Bool.false_and, Bool.and_false, Bool.and_true, Bool.not_true, Bool.not_false]; done) | (simp only [sOkB, emptyT_def, h1, h2, h4, s0d, h59, ↓reduceIte, Int.reduceEq, decide_true, decide_false, Bool.true_and, Bool.false_and, Bool.and_false, Bool.and_true, Bool.not_true, Bool.not_false]; simp only [h3, p1, p2, p5, h60, ↓reduceIte, Int.reduceEq, decide_true, decide_false, Bool.true_and, Bool.false_and, Bool.and_false, Bool.and_true, Bool.not_true, Bool.not_false]))
    repeat (first | rw [kz_o] | rw [kz_r0] | simp -dsimp -implicitDefEqProofs only [go_sem, Nat.reduceBEq, Nat.reduceAdd, Nat.reduceLeDiff, Nat.reduceMul, Int.reduceLE, Int.reduceLT, Int.reduceBEq, h1, h2, h3, h4, s0d, p1, p2, p5, h59, h60])
    refine pw_intro (l24Bare_ok (F := fun j => F (j + 3)) (c := c.config)) ?_
    rintro _ n62 hn62 rfl
    cases h61 : bareB c.config
    · repeat (first | rw [kz_o] | rw [kz_r0] | simp -dsimp -implicitDefEqProofs only [go_sem, Nat.reduceBEq, Nat.reduceAdd, Nat.reduceLeDiff, Nat.reduceMul, Int.reduceLE, Int.reduceLT, Int.reduceBEq, h1, h2, h3, h4, s0d, p1, p2, p5, h59, h60])
      exact bad _ (by repeat (first | exact H2.le.refl _ | apply le_push | refine le_up ?_ (by assumption) | refine le_up ?_ (by simp only [hn_up, hn_push] at *; omega))) (by first | (simp only [sOkB, emptyT_def, h1, h2, h4, s0d, h59, h61, ↓reduceIte, Int.reduceEq, decide_true, decide_false, Bool.true_and, Bool.false_and, Bool.and_false, Bool.and_true, Bool.not_true, Bool.not_false]; done) | (simp only [sOkB, emptyT_def, h1, h2, h4, s0d, h59, h61, ↓reduceIte, Int.reduceEq, decide_true, decide_false, Bool.true_and, Bool.false_and, Bool.and_false, Bool.and_true, Bool.not_true, Bool.not_false]; simp only [h3, p1, p2, p5, h60, ↓reduceIte, Int.reduceEq, decide_true, decide_false, Bool.true_and, Bool.false_and, Bool.and_false, Bool.and_true, Bool.not_true, Bool.not_false]))
    repeat (first | rw [kz_o] | rw [kz_r0] | simp -dsimp -implicitDefEqProofs only [go_sem, Nat.reduceBEq, Nat.reduceAdd, Nat.reduceLeDiff, Nat.reduceMul, Int.reduceLE, Int.reduceLT, Int.reduceBEq, h1, h2, h3, h4, s0d, p1, p2, p5, h59, h60])
    exact bad _ (by repeat (first | exact H2.le.refl _ | apply le_push | refine le_up ?_ (by assumption) | refine le_up ?_ (by simp only [hn_up, hn_push] at *; omega))) (by first | (simp only [sOkB, emptyT_def, h1, h2, h4, s0d, h59, h61, numB, ↓reduceIte, Int.reduceEq, decide_true, decide_false, Bool.true_and, Bool.false_and, Bool.and_false, Bool.and_true, Bool.not_true, Bool.not_false]; done) | (simp only [sOkB, emptyT_def, h1, h2, h4, s0d, h59, h61, numB, ↓reduceIte, Int.reduceEq, decide_true, decide_false, Bool.true_and, Bool.false_and, Bool.and_false, Bool.and_true, Bool.not_true, Bool.not_false]; simp only [h3, p1, p2, p5, h60, ↓reduceIte, Int.reduceEq, decide_true, decide_false, Bool.true_and, Bool.false_and, Bool.and_false, Bool.and_true, Bool.not_true, Bool.not_false]))
end Go.Bi
