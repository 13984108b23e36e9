/- Both sides of Admit. -/
import Derived.Test.YtjofbadmkigkjaaHe
import Derived.Test.YtjofbadmkigkjaaDb
set_option linter.unusedSimpArgs false
set_option linter.unusedVariables false
set_option maxRecDepth 20000
namespace Go.Bi
open Go.Proofs
open Go.Ai (wrap_i64 wrap_u64 wrap_u8)
variable {W0 : World} {P : Program}
set_option maxHeartbeats 4000000
theorem implVocab_ok {F : Nat → Adr} {c : LModel} {h : H2} (hm : c.merges.length ≤ 1048576) : PW Try.prog W0 80 [.st (xModel F c)] h (fun r => r = .raw (.int .i64 (256 + c.merges.length))) := by
  refine PW.scalar ?_
  refine start (P := Try.prog) [[0], [1]] (by kernel_rfl) Try.func80 rfl (by decide) (by decide +kernel) (rs := [.tmp 2]) rfl rfl (Nat.le_of_ble_eq_true rfl) ?_
  intro wf
  have w : IntKind.i64.wrap (256 + (c.merges.length : Int)) = 256 + c.merges.length := by rw [wrap_i64] <;> omega
  repeat (first | rw [kz_o] | rw [kz_r0] | simp -dsimp -implicitDefEqProofs only [go_sem, Nat.reduceBEq, Nat.reduceAdd, Nat.reduceLeDiff, Nat.reduceMul, Int.reduceLE, Int.reduceLT, Int.reduceBEq, w])
  exact ⟨le_push (H2.le.refl _), ⟨_, rfl⟩, rfl⟩
theorem specVocab_ok {F : Nat → Adr} {c : LModel} {h : H2} (hm : c.merges.length ≤ 1048576) : PW Try.prog W0 108 [.st (xModel F c)] h (fun r => r = .raw (.int .i64 (256 + c.merges.length))) := by
  refine PW.scalar ?_
  refine start (P := Try.prog) [[0], [1]] (by kernel_rfl) Try.func108 rfl (by decide) (by decide +kernel) (rs := [.tmp 2]) rfl rfl (Nat.le_of_ble_eq_true rfl) ?_
  intro wf
  have w : IntKind.i64.wrap (256 + (c.merges.length : Int)) = 256 + c.merges.length := by rw [wrap_i64] <;> omega
  repeat (first | rw [kz_o] | rw [kz_r0] | simp -dsimp -implicitDefEqProofs only [go_sem, Nat.reduceBEq, Nat.reduceAdd, Nat.reduceLeDiff, Nat.reduceMul, Int.reduceLE, Int.reduceLT, Int.reduceBEq, w])
  exact ⟨le_push (H2.le.refl _), ⟨_, rfl⟩, rfl⟩
def tokOk (c : LModel) (t : Int) : Bool := inI t 0 (255 + c.merges.length)
theorem l18Token_ok {F : Nat → Adr} {c : LModel} {t : Int} {h : H2} (hm : c.merges.length ≤ 1048576) : PW Try.prog W0 74 [.st (xModel F c), .raw (.int .i64 t)] h (fun r => r = .raw (.bool (tokOk c t))) := by
  refine PW.scalar ?_
  refine start (P := Try.prog) [[0, 1], [1, 2]] (by kernel_rfl) Try.func74 rfl (by decide) (by decide +kernel) (rs := [.tmp 4]) rfl rfl (Nat.le_of_ble_eq_true rfl) ?_
  intro wf
  have w : IntKind.i64.wrap (256 + (c.merges.length : Int) - 1) = 255 + c.merges.length := by rw [wrap_i64] <;> omega
  repeat (first | rw [kz_o] | rw [kz_r0] | simp -dsimp -implicitDefEqProofs only [go_sem, Nat.reduceBEq, Nat.reduceAdd, Nat.reduceLeDiff, Nat.reduceMul, Int.reduceLE, Int.reduceLT, Int.reduceBEq])
  refine pw_intro (specVocab_ok (F := F) hm) ?_
  rintro _ n1 hn1 rfl
  repeat (first | rw [kz_o] | rw [kz_r0] | simp -dsimp -implicitDefEqProofs only [go_sem, Nat.reduceBEq, Nat.reduceAdd, Nat.reduceLeDiff, Nat.reduceMul, Int.reduceLE, Int.reduceLT, Int.reduceBEq, w])
  refine wz_intro l01In_ok ?_
  rintro _ h2 ⟨rfl, rfl⟩
  repeat (first | rw [kz_o] | rw [kz_r0] | simp -dsimp -implicitDefEqProofs only [go_sem, Nat.reduceBEq, Nat.reduceAdd, Nat.reduceLeDiff, Nat.reduceMul, Int.reduceLE, Int.reduceLT, Int.reduceBEq])
  exact ⟨by repeat (first | exact H2.le.refl _ | apply le_push | refine le_up ?_ (by first | assumption | (simp only [hn_up, hn_push] at *; omega))), ⟨_, rfl⟩, rfl⟩
def needI (n : Int) : Int := if n ≤ 0 then 0 else IntKind.i64.wrap (IntKind.i64.wrap ((IntKind.i64.wrap (n - 1)).tdiv 4) + 1)
theorem implNeed_ok {n : Int} {h : H2} : WC2 Try.prog W0 81 [.raw (.int .i64 n)] h (fun v h' => v = .raw (.int .i64 (needI n)) ∧ h' = h) := by
  refine start (P := Try.prog) [[0], [0], [], [0]] (by kernel_rfl) Try.func81 rfl (by decide) (by decide +kernel) (rs := [.tmp 2]) rfl rfl (Nat.le_of_ble_eq_true rfl) ?_
  intro wf
  have w4 : ((4 : Int) == 0) = false := by decide
  unfold needI
  by_cases h1 : n ≤ 0
  · repeat (first | rw [kz_o] | rw [kz_r0] | simp -dsimp -implicitDefEqProofs only [go_sem, Nat.reduceBEq, Nat.reduceAdd, Nat.reduceLeDiff, Nat.reduceMul, Int.reduceLE, Int.reduceLT, Int.reduceBEq, h1])
    exact ⟨by rw [if_pos h1], rfl⟩
  · repeat (first | rw [kz_o] | rw [kz_r0] | simp -dsimp -implicitDefEqProofs only [go_sem, Nat.reduceBEq, Nat.reduceAdd, Nat.reduceLeDiff, Nat.reduceMul, Int.reduceLE, Int.reduceLT, Int.reduceBEq, h1, w4])
    exact ⟨by rw [if_neg h1], rfl⟩
theorem specNeed_ok {n : Int} {h : H2} : WC2 Try.prog W0 75 [.raw (.int .i64 n)] h (fun v h' => v = .raw (.int .i64 (needI n)) ∧ h' = h) := by
  refine start (P := Try.prog) [[0], [0], [], [0]] (by kernel_rfl) Try.func75 rfl (by decide) (by decide +kernel) (rs := [.tmp 2]) rfl rfl (Nat.le_of_ble_eq_true rfl) ?_
  intro wf
  have w4 : ((4 : Int) == 0) = false := by decide
  unfold needI
  by_cases h1 : n ≤ 0
  · repeat (first | rw [kz_o] | rw [kz_r0] | simp -dsimp -implicitDefEqProofs only [go_sem, Nat.reduceBEq, Nat.reduceAdd, Nat.reduceLeDiff, Nat.reduceMul, Int.reduceLE, Int.reduceLT, Int.reduceBEq, h1])
    exact ⟨by rw [if_pos h1], rfl⟩
  · repeat (first | rw [kz_o] | rw [kz_r0] | simp -dsimp -implicitDefEqProofs only [go_sem, Nat.reduceBEq, Nat.reduceAdd, Nat.reduceLeDiff, Nat.reduceMul, Int.reduceLE, Int.reduceLT, Int.reduceBEq, h1, w4])
    exact ⟨by rw [if_neg h1], rfl⟩
def admitI (e : LEngine) (p : List Int) (c : LConfig) : Int :=
  if cfgOk c = true ∧ allI p 0 (255 + e.model.merges.length) = true then
    (if p.length = 0 then 1 else if e.model.context < (p.length : Int) + c.new then 2 else if (e.store.refs.length : Int) < needI ((p.length : Int) + c.new) then 3 else if (10 : Int) ≤ e.requests.length then 4 else 0)
  else 5
theorem cfg_new {c : LConfig} (h : cfgOk c = true) : 1 ≤ c.new ∧ c.new ≤ 24 := by
  unfold cfgOk at h
  simp only [Bool.and_eq_true] at h
  exact inI_t h.2.2.1
theorem implAdmit_ok {F F' : Nat → Adr} {f : Adr} {e : LEngine} {p : List Int} {c : LConfig} {h : H2} (hm : e.model.merges.length ≤ 1048576) (hp : p.length ≤ 1048576) (hc : c.stops.length ≤ 9223372036854775807) :
    PW Try.prog W0 28 [.st (xEngine F e), .sl f 1 (ints p), .st (xConfig F' c)] h (fun r => r = .raw (.int .i64 (admitI e p c))) := by
  refine PW.scalar ?_
  refine start (P := Try.prog) [[0, 1, 2], [1, 3, 5], [1, 3, 5, 7], [], [1, 3, 7], [], [3, 7], [], [3, 7], [], [3], [], []] (by kernel_rfl) Try.func28 rfl (by decide) (by decide +kernel) (rs := [.tmp 6]) rfl rfl (Nat.le_of_ble_eq_true rfl) ?_
  intro wf
  have w1 : IntKind.i64.wrap (256 + (e.model.merges.length : Int) - 1) = 255 + e.model.merges.length := by rw [wrap_i64] <;> omega
  unfold admitI
  repeat (first | rw [kz_o] | rw [kz_r0] | simp -dsimp -implicitDefEqProofs only [go_sem, Nat.reduceBEq, Nat.reduceAdd, Nat.reduceLeDiff, Nat.reduceMul, Int.reduceLE, Int.reduceLT, Int.reduceBEq])
  refine pw_intro (implConfigOk_ok (F := F') hc) ?_
  rintro _ n1 hn1 rfl
  cases h1 : cfgOk c
  · repeat (first | rw [kz_o] | rw [kz_r0] | simp -dsimp -implicitDefEqProofs only [go_sem, Nat.reduceBEq, Nat.reduceAdd, Nat.reduceLeDiff, Nat.reduceMul, Int.reduceLE, Int.reduceLT, Int.reduceBEq])
    exact ⟨by repeat (first | exact H2.le.refl _ | apply le_push | refine le_up ?_ (by first | assumption | (simp only [hn_up, hn_push] at *; omega))), ⟨_, rfl⟩, by simp⟩
  have hnew := cfg_new h1
  have w2 : IntKind.i64.wrap ((p.length : Int) + c.new) = (p.length : Int) + c.new := by rw [wrap_i64] <;> omega
  repeat (first | rw [kz_o] | rw [kz_r0] | simp -dsimp -implicitDefEqProofs only [go_sem, Nat.reduceBEq, Nat.reduceAdd, Nat.reduceLeDiff, Nat.reduceMul, Int.reduceLE, Int.reduceLT, Int.reduceBEq, hoo])
  refine pw_intro (implVocab_ok (F := F) (c := e.model) hm) ?_
  rintro _ n2 hn2 rfl
  repeat (first | rw [kz_o] | rw [kz_r0] | simp -dsimp -implicitDefEqProofs only [go_sem, Nat.reduceBEq, Nat.reduceAdd, Nat.reduceLeDiff, Nat.reduceMul, Int.reduceLE, Int.reduceLT, Int.reduceBEq, w1])
  refine pw_intro (allIn_ok (by omega)) ?_
  rintro _ n3 hn3 rfl
  cases h2 : allI p 0 (255 + (e.model.merges.length : Int))
  · repeat (first | rw [kz_o] | rw [kz_r0] | simp -dsimp -implicitDefEqProofs only [go_sem, Nat.reduceBEq, Nat.reduceAdd, Nat.reduceLeDiff, Nat.reduceMul, Int.reduceLE, Int.reduceLT, Int.reduceBEq])
    exact ⟨by repeat (first | exact H2.le.refl _ | apply le_push | refine le_up ?_ (by first | assumption | (simp only [hn_up, hn_push] at *; omega))), ⟨_, rfl⟩, by simp⟩
  by_cases h3 : (p.length : Int) = 0
  · repeat (first | rw [kz_o] | rw [kz_r0] | simp -dsimp -implicitDefEqProofs only [go_sem, Nat.reduceBEq, Nat.reduceAdd, Nat.reduceLeDiff, Nat.reduceMul, Int.reduceLE, Int.reduceLT, Int.reduceBEq, h3])
    exact ⟨by repeat (first | exact H2.le.refl _ | apply le_push | refine le_up ?_ (by first | assumption | (simp only [hn_up, hn_push] at *; omega))), ⟨_, rfl⟩, by rw [if_pos ⟨rfl, rfl⟩, if_pos (by omega)]⟩
  have h3n : ¬ p.length = 0 := by omega
  by_cases h4 : e.model.context < (p.length : Int) + c.new
  · repeat (first | rw [kz_o] | rw [kz_r0] | simp -dsimp -implicitDefEqProofs only [go_sem, Nat.reduceBEq, Nat.reduceAdd, Nat.reduceLeDiff, Nat.reduceMul, Int.reduceLE, Int.reduceLT, Int.reduceBEq, h3, w2, h4, gt_iff_lt])
    exact ⟨by repeat (first | exact H2.le.refl _ | apply le_push | refine le_up ?_ (by first | assumption | (simp only [hn_up, hn_push] at *; omega))), ⟨_, rfl⟩, by rw [if_pos ⟨rfl, rfl⟩, if_neg h3n, if_pos h4]⟩
  repeat (first | rw [kz_o] | rw [kz_r0] | simp -dsimp -implicitDefEqProofs only [go_sem, Nat.reduceBEq, Nat.reduceAdd, Nat.reduceLeDiff, Nat.reduceMul, Int.reduceLE, Int.reduceLT, Int.reduceBEq, h3, w2, h4, gt_iff_lt])
  refine dq_intro [(0, []), (2, []), (3, []), (4, []), (5, []), (1, [4]), (6, []), (7, [])] (by kernel_rfl) ?_
  repeat (first | rw [kz_o] | rw [kz_r0] | simp -dsimp -implicitDefEqProofs only [go_sem, Nat.reduceBEq, Nat.reduceAdd, Nat.reduceLeDiff, Nat.reduceMul, Int.reduceLE, Int.reduceLT, Int.reduceBEq, w2])
  refine wz_intro implNeed_ok ?_
  rintro _ h5 ⟨rfl, rfl⟩
  rw [kz_r]
  refine ⟨by simp -dsimp -implicitDefEqProofs only [go_sem, Nat.reduceBEq, Nat.reduceAdd, Nat.reduceLeDiff, Nat.reduceMul, Int.reduceLE, Int.reduceLT, Int.reduceBEq], ?_⟩
  by_cases h5 : (e.store.refs.length : Int) < needI ((p.length : Int) + c.new)
  · repeat (first | rw [kz_o] | rw [kz_r0] | simp -dsimp -implicitDefEqProofs only [go_sem, Nat.reduceBEq, Nat.reduceAdd, Nat.reduceLeDiff, Nat.reduceMul, Int.reduceLE, Int.reduceLT, Int.reduceBEq, h5, gt_iff_lt])
    exact ⟨by repeat (first | exact H2.le.refl _ | apply le_push | refine le_up ?_ (by first | assumption | (simp only [hn_up, hn_push] at *; omega))), ⟨_, rfl⟩, by rw [if_pos ⟨rfl, rfl⟩, if_neg h3n, if_neg h4, if_pos h5]⟩
  by_cases h6 : (10 : Int) ≤ e.requests.length
  · repeat (first | rw [kz_o] | rw [kz_r0] | simp -dsimp -implicitDefEqProofs only [go_sem, Nat.reduceBEq, Nat.reduceAdd, Nat.reduceLeDiff, Nat.reduceMul, Int.reduceLE, Int.reduceLT, Int.reduceBEq, h5, h6, gt_iff_lt, ge_iff_le])
    exact ⟨by repeat (first | exact H2.le.refl _ | apply le_push | refine le_up ?_ (by first | assumption | (simp only [hn_up, hn_push] at *; omega))), ⟨_, rfl⟩, by rw [if_pos ⟨rfl, rfl⟩, if_neg h3n, if_neg h4, if_neg h5, if_pos h6]⟩
  · repeat (first | rw [kz_o] | rw [kz_r0] | simp -dsimp -implicitDefEqProofs only [go_sem, Nat.reduceBEq, Nat.reduceAdd, Nat.reduceLeDiff, Nat.reduceMul, Int.reduceLE, Int.reduceLT, Int.reduceBEq, h5, h6, gt_iff_lt, ge_iff_le])
    exact ⟨by repeat (first | exact H2.le.refl _ | apply le_push | refine le_up ?_ (by first | assumption | (simp only [hn_up, hn_push] at *; omega))), ⟨_, rfl⟩, by rw [if_pos ⟨rfl, rfl⟩, if_neg h3n, if_neg h4, if_neg h5, if_neg h6]⟩
theorem specAdmit_ok {F F' : Nat → Adr} {f : Adr} {e : LEngine} {p : List Int} {c : LConfig} {h : H2} (hm : e.model.merges.length ≤ 1048576) (hp : p.length ≤ 1048576) (hc : c.stops.length ≤ 9223372036854775807) :
    PW Try.prog W0 26 [.st (xEngine F e), .sl f 1 (ints p), .st (xConfig F' c)] h (fun r => r = .raw (.int .i64 (admitI e p c))) := by
  refine PW.scalar ?_
  refine start (P := Try.prog) [[0, 1, 2], [1, 3, 5], [], [1, 3, 5], [1, 3, 5, 7], [1, 3, 5, 7], [1, 3, 5, 7], [], [1, 3, 5], [], [1, 3, 5], [], [1, 3, 5], [], [3], [], []] (by kernel_rfl) Try.func26 rfl (by decide) (by decide +kernel) (rs := [.tmp 6]) rfl rfl (Nat.le_of_ble_eq_true rfl) ?_
  intro wf
  unfold admitI
  repeat (first | rw [kz_o] | rw [kz_r0] | simp -dsimp -implicitDefEqProofs only [go_sem, Nat.reduceBEq, Nat.reduceAdd, Nat.reduceLeDiff, Nat.reduceMul, Int.reduceLE, Int.reduceLT, Int.reduceBEq])
  refine pw_intro (specConfigOk_ok (F := F') hc) ?_
  rintro _ n1 hn1 rfl
  cases h1 : cfgOk c
  · repeat (first | rw [kz_o] | rw [kz_r0] | simp -dsimp -implicitDefEqProofs only [go_sem, Nat.reduceBEq, Nat.reduceAdd, Nat.reduceLeDiff, Nat.reduceMul, Int.reduceLE, Int.reduceLT, Int.reduceBEq])
    exact ⟨by repeat (first | exact H2.le.refl _ | apply le_push | refine le_up ?_ (by first | assumption | (simp only [hn_up, hn_push] at *; omega))), ⟨_, rfl⟩, by simp⟩
  have hnew := cfg_new h1
  have w2 : IntKind.i64.wrap ((p.length : Int) + c.new) = (p.length : Int) + c.new := by rw [wrap_i64] <;> omega
  repeat (first | rw [kz_o] | rw [kz_r0] | simp -dsimp -implicitDefEqProofs only [go_sem, Nat.reduceBEq, Nat.reduceAdd, Nat.reduceLeDiff, Nat.reduceMul, Int.reduceLE, Int.reduceLT, Int.reduceBEq, hoo])
  simp only [hn_push] at hn1
  refine lz_keep [1, 3, 5] (fun m s h' => ∃ (i n : Nat), h' = ((h.push ⟨17, xEngine F e⟩).push ⟨4, xConfig F' c⟩).up n ∧ hn h .mk + 2 ≤ n ∧ look s 7 .mk = .raw (.int .i64 (i : Nat)) ∧ m + i = p.length ∧ ∀ j, j < i → tokOk e.model (p.getD j default) = true) p.length ?_ ?_
  · exact ⟨0, n1, rfl, by omega, by simp -dsimp -implicitDefEqProofs only [go_sem, Nat.reduceBEq, Nat.reduceAdd, Nat.reduceLeDiff, Nat.reduceMul, Int.reduceLE, Int.reduceLT, Int.reduceBEq], by omega, fun j hj => by omega⟩
  · rintro m s h' hks ⟨i, n, rfl, hnn, e7, hmi, hpre⟩
    simp -dsimp -implicitDefEqProofs only [go_sem, Nat.reduceBEq, Nat.reduceAdd, Nat.reduceLeDiff, Nat.reduceMul, Int.reduceLE, Int.reduceLT, Int.reduceBEq] at hks
    by_cases h3 : (i : Int) < (p.length : Int)
    · have hi : i < p.length := by omega
      repeat (first | rw [kz_o] | rw [kz_r0] | simp -dsimp -implicitDefEqProofs only [go_sem, Nat.reduceBEq, Nat.reduceAdd, Nat.reduceLeDiff, Nat.reduceMul, Int.reduceLE, Int.reduceLT, Int.reduceBEq, hks, e7, h3])
      refine dq_intro [(0, []), (1, []), (2, []), (3, []), (4, []), (5, []), (6, []), (7, [])] (by kernel_rfl) ?_
      repeat (first | rw [kz_o] | rw [kz_r0] | simp -dsimp -implicitDefEqProofs only [go_sem, Nat.reduceBEq, Nat.reduceAdd, Nat.reduceLeDiff, Nat.reduceMul, Int.reduceLE, Int.reduceLT, Int.reduceBEq, hks, e7, h3, hi, hoo])
      refine pw_intro (l18Token_ok (F := F) (c := e.model) hm) ?_
      rintro _ n2 hn2 rfl
      simp only [hn_up] at hn2
      cases h4 : tokOk e.model (p.getD i default)
      · repeat (first | rw [kz_o] | rw [kz_r0] | simp -dsimp -implicitDefEqProofs only [go_sem, Nat.reduceBEq, Nat.reduceAdd, Nat.reduceLeDiff, Nat.reduceMul, Int.reduceLE, Int.reduceLT, Int.reduceBEq])
        refine ⟨by repeat (first | exact H2.le.refl _ | apply le_push | refine le_up ?_ (by first | assumption | (simp only [hn_up, hn_push] at *; omega))), ⟨_, rfl⟩, ?_⟩
        rw [if_neg]
        rintro ⟨_, hx⟩
        rw [allI, List.all_eq_true] at hx
        have := hx _ (getD_mem hi)
        rw [show inI (p.getD i default) 0 (255 + (e.model.merges.length : Int)) = tokOk e.model (p.getD i default) from rfl, h4] at this
        cases this
      · repeat (first | rw [kz_o] | rw [kz_r0] | simp -dsimp -implicitDefEqProofs only [go_sem, Nat.reduceBEq, Nat.reduceAdd, Nat.reduceLeDiff, Nat.reduceMul, Int.reduceLE, Int.reduceLT, Int.reduceBEq, hks, e7, wrap_succ hi (by omega)])
        refine nx_keep (m - 1) (by omega) (by simp -dsimp -implicitDefEqProofs only [go_sem, Nat.reduceBEq, Nat.reduceAdd, Nat.reduceLeDiff, Nat.reduceMul, Int.reduceLE, Int.reduceLT, Int.reduceBEq, hks]) ⟨i + 1, n2, rfl, by omega, by simp -dsimp -implicitDefEqProofs only [go_sem, Nat.reduceBEq, Nat.reduceAdd, Nat.reduceLeDiff, Nat.reduceMul, Int.reduceLE, Int.reduceLT, Int.reduceBEq], by omega, fun j hj => ?_⟩
        by_cases hji : j = i
        · subst hji; exact h4
        · exact hpre j (by omega)
    · have hall : allI p 0 (255 + (e.model.merges.length : Int)) = true := by
        rw [allI, List.all_eq_true]
        intro x hx
        obtain ⟨j, hj, rfl⟩ := List.getElem_of_mem hx
        have := hpre j (by omega)
        rw [List.getD_eq_getElem?_getD, List.getElem?_eq_getElem hj] at this
        exact this
      rw [if_pos ⟨rfl, hall⟩]
      repeat (first | rw [kz_o] | rw [kz_r0] | simp -dsimp -implicitDefEqProofs only [go_sem, Nat.reduceBEq, Nat.reduceAdd, Nat.reduceLeDiff, Nat.reduceMul, Int.reduceLE, Int.reduceLT, Int.reduceBEq, hks, e7, h3])
      by_cases h5 : (p.length : Int) = 0
      · repeat (first | rw [kz_o] | rw [kz_r0] | simp -dsimp -implicitDefEqProofs only [go_sem, Nat.reduceBEq, Nat.reduceAdd, Nat.reduceLeDiff, Nat.reduceMul, Int.reduceLE, Int.reduceLT, Int.reduceBEq, h5])
        exact ⟨by repeat (first | exact H2.le.refl _ | apply le_push | refine le_up ?_ (by first | assumption | (simp only [hn_up, hn_push] at *; omega))), ⟨_, rfl⟩, by rw [if_pos (by omega)]⟩
      rw [if_neg (by omega)]
      by_cases h6 : e.model.context < (p.length : Int) + c.new
      · repeat (first | rw [kz_o] | rw [kz_r0] | simp -dsimp -implicitDefEqProofs only [go_sem, Nat.reduceBEq, Nat.reduceAdd, Nat.reduceLeDiff, Nat.reduceMul, Int.reduceLE, Int.reduceLT, Int.reduceBEq, hks, h5, w2, h6, gt_iff_lt, hoo])
        exact ⟨by repeat (first | exact H2.le.refl _ | apply le_push | refine le_up ?_ (by first | assumption | (simp only [hn_up, hn_push] at *; omega))), ⟨_, rfl⟩, by rw [if_pos h6]⟩
      repeat (first | rw [kz_o] | rw [kz_r0] | simp -dsimp -implicitDefEqProofs only [go_sem, Nat.reduceBEq, Nat.reduceAdd, Nat.reduceLeDiff, Nat.reduceMul, Int.reduceLE, Int.reduceLT, Int.reduceBEq, hks, h5, w2, h6, gt_iff_lt, hoo])
      refine dq_intro [(0, []), (1, []), (2, []), (3, []), (4, []), (6, []), (7, []), (8, []), (9, []), (5, [8]), (10, [])] (by kernel_rfl) ?_
      repeat (first | rw [kz_o] | rw [kz_r0] | simp -dsimp -implicitDefEqProofs only [go_sem, Nat.reduceBEq, Nat.reduceAdd, Nat.reduceLeDiff, Nat.reduceMul, Int.reduceLE, Int.reduceLT, Int.reduceBEq, hks, w2, hoo])
      refine wz_intro specNeed_ok ?_
      rintro _ hx ⟨rfl, rfl⟩
      rw [kz_r]
      refine ⟨by simp -dsimp -implicitDefEqProofs only [go_sem, Nat.reduceBEq, Nat.reduceAdd, Nat.reduceLeDiff, Nat.reduceMul, Int.reduceLE, Int.reduceLT, Int.reduceBEq], ?_⟩
      by_cases h7 : (e.store.refs.length : Int) < needI ((p.length : Int) + c.new)
      · repeat (first | rw [kz_o] | rw [kz_r0] | simp -dsimp -implicitDefEqProofs only [go_sem, Nat.reduceBEq, Nat.reduceAdd, Nat.reduceLeDiff, Nat.reduceMul, Int.reduceLE, Int.reduceLT, Int.reduceBEq, hks, h7, gt_iff_lt])
        exact ⟨by repeat (first | exact H2.le.refl _ | apply le_push | refine le_up ?_ (by first | assumption | (simp only [hn_up, hn_push] at *; omega))), ⟨_, rfl⟩, by rw [if_neg h6, if_pos h7]⟩
      by_cases h8 : (10 : Int) ≤ e.requests.length
      · repeat (first | rw [kz_o] | rw [kz_r0] | simp -dsimp -implicitDefEqProofs only [go_sem, Nat.reduceBEq, Nat.reduceAdd, Nat.reduceLeDiff, Nat.reduceMul, Int.reduceLE, Int.reduceLT, Int.reduceBEq, hks, h7, h8, gt_iff_lt, ge_iff_le])
        exact ⟨by repeat (first | exact H2.le.refl _ | apply le_push | refine le_up ?_ (by first | assumption | (simp only [hn_up, hn_push] at *; omega))), ⟨_, rfl⟩, by rw [if_neg h6, if_neg h7, if_pos h8]⟩
      · repeat (first | rw [kz_o] | rw [kz_r0] | simp -dsimp -implicitDefEqProofs only [go_sem, Nat.reduceBEq, Nat.reduceAdd, Nat.reduceLeDiff, Nat.reduceMul, Int.reduceLE, Int.reduceLT, Int.reduceBEq, hks, h7, h8, gt_iff_lt, ge_iff_le])
        exact ⟨by repeat (first | exact H2.le.refl _ | apply le_push | refine le_up ?_ (by first | assumption | (simp only [hn_up, hn_push] at *; omega))), ⟨_, rfl⟩, by rw [if_neg h6, if_neg h7, if_neg h8]⟩
end Go.Bi
