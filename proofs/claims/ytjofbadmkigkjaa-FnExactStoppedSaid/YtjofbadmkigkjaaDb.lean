/- Walks of what says that a config is right, and that all numbers of a row are from one to another, on both sides. -/
import Derived.Test.YtjofbadmkigkjaaDa
set_option linter.unusedSimpArgs false
set_option linter.unusedVariables false
set_option maxRecDepth 20000
namespace Go.Bi
open Go.Proofs
open Go.Ai (wrap_i64 wrap_u64 wrap_u8 Heap)
variable {W0 : World} {P : Program}
theorem any_getD {α : Type} [Inhabited α] {ss : List α} {p : α → Bool} {k : Nat} (hk : k < ss.length) (h : p (ss.getD k default) = true) : ss.any p = true :=
  List.any_eq_true.2 ⟨_, List.getElem_mem hk, by rw [List.getD_eq_getElem?_getD, List.getElem?_eq_getElem hk] at h; exact h⟩
theorem any_none {α : Type} [Inhabited α] {ss : List α} {p : α → Bool} (h : ∀ j, j < ss.length → p (ss.getD j default) = false) : ss.any p = false := by
  rw [List.any_eq_false]
  intro x hx
  obtain ⟨j, hj, rfl⟩ := List.getElem_of_mem hx
  have := h j hj
  rw [List.getD_eq_getElem?_getD, List.getElem?_eq_getElem hj] at this
  simpa using this
theorem all_none {α : Type} [Inhabited α] {ss : List α} {p : α → Bool} {k : Nat} (hk : k < ss.length) (h : p (ss.getD k default) = false) : ss.all p = false := by
  rw [List.all_eq_not_any_not, any_getD hk (p := fun x => !p x) (by simp only [h]; rfl)]; rfl
theorem all_getD {α : Type} [Inhabited α] {ss : List α} {p : α → Bool} (h : ∀ j, j < ss.length → p (ss.getD j default) = true) : ss.all p = true := by
  rw [List.all_eq_not_any_not, any_none (p := fun x => !p x) (fun j hj => by simp only [h j hj]; rfl)]; rfl
theorem indexS_ok {F : FuncId} {p : ByteArray → Bool} {caps : List Value} {f : Adr} {ss : List ByteArray} {h : H2} (hn0 : ss.length ≤ 9223372036854775807)
    (hf : ∀ s, WC2 Try.prog W0 F ([.raw (.string s)] ++ caps.map .raw) h (fun v h' => v = .raw (.bool (p s)) ∧ h' = h)) :
    WC2 Try.prog W0 136 [.sl f 1 (strs ss), .raw (.func (.func F) #[] caps.toArray)] h (fun v h' => (∃ k : Int, v = .raw (.int .i64 k) ∧ decide (0 ≤ k) = ss.any p) ∧ h' = h) := by
  refine start (P := Try.prog) [[0, 1], [0, 1], [0, 1, 7, 8], [0, 1, 7, 8], [0, 1, 5, 7, 8], [5], [0, 1, 7, 8], []] (by kernel_rfl) Try.func136 rfl (by decide) (by decide +kernel) (rs := [.tmp 4]) rfl rfl (Nat.le_of_ble_eq_true rfl) ?_
  intro wf
  repeat (first | rw [kz_o] | rw [kz_r0] | simp -dsimp -implicitDefEqProofs only [go_sem, Nat.reduceBEq, Nat.reduceAdd, Nat.reduceLeDiff, Nat.reduceMul, Int.reduceLE, Int.reduceLT, Int.reduceBEq])
  refine lz_keep [0, 1, 7] (fun m e h' => h' = h ∧ ∃ k : Nat, look e 8 .mk = .raw (.int .i64 k) ∧ m + k = ss.length ∧ ∀ j : Nat, j < k → p (ss.getD j default) = false) ss.length ?_ ?_
  · exact ⟨rfl, 0, by simp -dsimp -implicitDefEqProofs only [go_sem, Nat.reduceBEq, Nat.reduceAdd, Nat.reduceLeDiff, Nat.reduceMul, Int.reduceLE, Int.reduceLT, Int.reduceBEq], by omega, fun j hj => by omega⟩
  · rintro m e h hks ⟨rfl, k, e8, hk, hpre⟩
    simp -dsimp -implicitDefEqProofs only [go_sem, Nat.reduceBEq, Nat.reduceAdd, Nat.reduceLeDiff, Nat.reduceMul, Int.reduceLE, Int.reduceLT, Int.reduceBEq] at hks
    repeat (first | rw [kz_o] | rw [kz_r0] | simp -dsimp -implicitDefEqProofs only [go_sem, Nat.reduceBEq, Nat.reduceAdd, Nat.reduceLeDiff, Nat.reduceMul, Int.reduceLE, Int.reduceLT, Int.reduceBEq, hks, e8])
    refine gz_dec (fun h2 => ?_) (fun h2 => ?_)
    · have h3 : k < ss.length := by omega
      repeat (first | rw [kz_o] | rw [kz_r0] | simp -dsimp -implicitDefEqProofs only [go_sem, Nat.reduceBEq, Nat.reduceAdd, Nat.reduceLeDiff, Nat.reduceMul, Int.reduceLE, Int.reduceLT, Int.reduceBEq, hks, e8, h3])
      refine wz_intro (hf _) ?_
      rintro _ h' ⟨rfl, rfl⟩
      repeat (first | rw [kz_o] | rw [kz_r0] | simp -dsimp -implicitDefEqProofs only [go_sem, Nat.reduceBEq, Nat.reduceAdd, Nat.reduceLeDiff, Nat.reduceMul, Int.reduceLE, Int.reduceLT, Int.reduceBEq, hks, e8])
      refine gz_intro (fun h4 => ?_) (fun h4 => ?_)
      · repeat (first | rw [kz_o] | rw [kz_r0] | simp -dsimp -implicitDefEqProofs only [go_sem, Nat.reduceBEq, Nat.reduceAdd, Nat.reduceLeDiff, Nat.reduceMul, Int.reduceLE, Int.reduceLT, Int.reduceBEq, hks, e8])
        exact ⟨⟨_, rfl, by rw [any_getD h3 h4]; simp⟩, rfl⟩
      · repeat (first | rw [kz_o] | rw [kz_r0] | simp -dsimp -implicitDefEqProofs only [go_sem, Nat.reduceBEq, Nat.reduceAdd, Nat.reduceLeDiff, Nat.reduceMul, Int.reduceLE, Int.reduceLT, Int.reduceBEq, hks, e8, wrap_succ h3 hn0])
        refine nx_keep (m - 1) (by omega) (by simp -dsimp -implicitDefEqProofs only [go_sem, Nat.reduceBEq, Nat.reduceAdd, Nat.reduceLeDiff, Nat.reduceMul, Int.reduceLE, Int.reduceLT, Int.reduceBEq, hks]) ⟨rfl, k + 1, by simp -dsimp -implicitDefEqProofs only [go_sem, Nat.reduceBEq, Nat.reduceAdd, Nat.reduceLeDiff, Nat.reduceMul, Int.reduceLE, Int.reduceLT, Int.reduceBEq], by omega, fun j hj => ?_⟩
        by_cases hji : j = k
        · subst hji; exact h4
        · exact hpre j (by omega)
    · repeat (first | rw [kz_o] | rw [kz_r0] | simp -dsimp -implicitDefEqProofs only [go_sem, Nat.reduceBEq, Nat.reduceAdd, Nat.reduceLeDiff, Nat.reduceMul, Int.reduceLE, Int.reduceLT, Int.reduceBEq, hks, e8])
      exact ⟨⟨_, rfl, by rw [any_none fun j hj => hpre j (by omega)]; rfl⟩, rfl⟩
theorem containsS_ok {F : FuncId} {p : ByteArray → Bool} {caps : List Value} {f : Adr} {ss : List ByteArray} {h : H2} (hn0 : ss.length ≤ 9223372036854775807)
    (hf : ∀ s, WC2 Try.prog W0 F ([.raw (.string s)] ++ caps.map .raw) h (fun v h' => v = .raw (.bool (p s)) ∧ h' = h)) :
    WC2 Try.prog W0 111 [.sl f 1 (strs ss), .raw (.func (.func F) #[] caps.toArray)] h (fun v h' => v = .raw (.bool (ss.any p)) ∧ h' = h) := by
  refine start (P := Try.prog) [[0, 1], [0, 1]] (by kernel_rfl) Try.func111 rfl (by decide) (by decide +kernel) (rs := [.tmp 4]) rfl rfl (Nat.le_of_ble_eq_true rfl) ?_
  intro wf
  repeat (first | rw [kz_o] | rw [kz_r0] | simp -dsimp -implicitDefEqProofs only [go_sem, Nat.reduceBEq, Nat.reduceAdd, Nat.reduceLeDiff, Nat.reduceMul, Int.reduceLE, Int.reduceLT, Int.reduceBEq])
  refine wz_intro (indexS_ok hn0 hf) ?_
  rintro _ h' ⟨⟨k, rfl, hk⟩, rfl⟩
  repeat (first | rw [kz_o] | rw [kz_r0] | simp -dsimp -implicitDefEqProofs only [go_sem, Nat.reduceBEq, Nat.reduceAdd, Nat.reduceLeDiff, Nat.reduceMul, Int.reduceLE, Int.reduceLT, Int.reduceBEq, hk])
  exact ⟨rfl, rfl⟩
theorem containsI_ok {F : FuncId} {p : Int → Bool} {caps : List Value} {f : Adr} {ss : List Int} {h : H2} (hn0 : ss.length ≤ 9223372036854775807)
    (hf : ∀ s, WC2 Try.prog W0 F ([.raw (.int .i64 s)] ++ caps.map .raw) h (fun v h' => v = .raw (.bool (p s)) ∧ h' = h)) :
    WC2 Try.prog W0 113 [.sl f 1 (ints ss), .raw (.func (.func F) #[] caps.toArray)] h (fun v h' => v = .raw (.bool (ss.any p)) ∧ h' = h) := by
  refine start (P := Try.prog) [[0, 1], [0, 1]] (by kernel_rfl) Try.func113 rfl (by decide) (by decide +kernel) (rs := [.tmp 4]) rfl rfl (Nat.le_of_ble_eq_true rfl) ?_
  intro wf
  repeat (first | rw [kz_o] | rw [kz_r0] | simp -dsimp -implicitDefEqProofs only [go_sem, Nat.reduceBEq, Nat.reduceAdd, Nat.reduceLeDiff, Nat.reduceMul, Int.reduceLE, Int.reduceLT, Int.reduceBEq])
  refine wz_intro (indexI_ok hn0 hf) ?_
  rintro _ h' ⟨⟨k, rfl, hk⟩, rfl⟩
  repeat (first | rw [kz_o] | rw [kz_r0] | simp -dsimp -implicitDefEqProofs only [go_sem, Nat.reduceBEq, Nat.reduceAdd, Nat.reduceLeDiff, Nat.reduceMul, Int.reduceLE, Int.reduceLT, Int.reduceBEq, hk])
  exact ⟨rfl, rfl⟩
theorem allIn1_ok {b1 b2 z1 z2 : Nat} {x y : Int} {h : H2} (h1 : hg h b1 .mk = some ⟨z1, [.raw (.int .i64 x)]⟩) (h2 : hg h b2 .mk = some ⟨z2, [.raw (.int .i64 y)]⟩) (s : Int) :
    WC2 Try.prog W0 114 ([.raw (.int .i64 s)] ++ [Value.pointer (some ⟨b1, 0, none⟩), .pointer (some ⟨b2, 0, none⟩)].map .raw) h (fun v h' => v = .raw (.bool (!inI s x y)) ∧ h' = h) := by
  simp only [List.cons_append, List.nil_append, List.map_cons, List.map_nil]
  refine start (P := Try.prog) [[0, 1, 2], [0, 1, 2]] (by kernel_rfl) Try.func114 rfl (by decide) (by decide +kernel) (rs := [.tmp 4]) rfl rfl (Nat.le_of_ble_eq_true rfl) ?_
  intro wf
  repeat (first | rw [kz_o] | rw [kz_r0] | simp -dsimp -implicitDefEqProofs only [go_sem, Nat.reduceBEq, Nat.reduceAdd, Nat.reduceLeDiff, Nat.reduceMul, Int.reduceLE, Int.reduceLT, Int.reduceBEq, h1, h2])
  refine wz_intro in_ok ?_
  rintro _ h' ⟨rfl, rfl⟩
  repeat (first | rw [kz_o] | rw [kz_r0] | simp -dsimp -implicitDefEqProofs only [go_sem, Nat.reduceBEq, Nat.reduceAdd, Nat.reduceLeDiff, Nat.reduceMul, Int.reduceLE, Int.reduceLT, Int.reduceBEq])
  exact ⟨rfl, rfl⟩
def allI (zs : List Int) (x y : Int) : Bool := zs.all fun s => inI s x y
theorem allIn_ok {f : Adr} {zs : List Int} {x y : Int} {h : H2} (hn0 : zs.length ≤ 9223372036854775807) :
    PW Try.prog W0 79 [.sl f 1 (ints zs), .raw (.int .i64 x), .raw (.int .i64 y)] h (fun r => r = .raw (.bool (allI zs x y))) := by
  refine PW.scalar ?_
  refine start (P := Try.prog) [[0, 1, 2], [0, 4, 5]] (by kernel_rfl) Try.func79 rfl (by decide) (by decide +kernel) (rs := [.tmp 6]) rfl rfl (Nat.le_of_ble_eq_true rfl) ?_
  intro wf
  repeat (first | rw [kz_o] | rw [kz_r0] | simp -dsimp -implicitDefEqProofs only [go_sem, Nat.reduceBEq, Nat.reduceAdd, Nat.reduceLeDiff, Nat.reduceMul, Int.reduceLE, Int.reduceLT, Int.reduceBEq])
  refine wz_intro (containsI_ok hn0 (allIn1_ok (x := x) (y := y) (z1 := 1) (z2 := 1) ?_ ?_)) ?_
  · simp -dsimp -implicitDefEqProofs only [go_sem, Nat.reduceBEq, Nat.reduceAdd, Nat.reduceLeDiff, Nat.reduceMul, Int.reduceLE, Int.reduceLT, Int.reduceBEq]
  · simp -dsimp -implicitDefEqProofs only [go_sem, Nat.reduceBEq, Nat.reduceAdd, Nat.reduceLeDiff, Nat.reduceMul, Int.reduceLE, Int.reduceLT, Int.reduceBEq]
  rintro _ h' ⟨rfl, rfl⟩
  repeat (first | rw [kz_o] | rw [kz_r0] | simp -dsimp -implicitDefEqProofs only [go_sem, Nat.reduceBEq, Nat.reduceAdd, Nat.reduceLeDiff, Nat.reduceMul, Int.reduceLE, Int.reduceLT, Int.reduceBEq])
  exact ⟨le_push (H2.le_push1 h _), ⟨_, rfl⟩, by rw [allI, List.all_eq_not_any_not]⟩
theorem l05All_ok {f : Adr} {zs : List Int} {x y : Int} {h : H2} (hn0 : zs.length ≤ 9223372036854775807) :
    PW Try.prog W0 37 [.sl f 1 (ints zs), .raw (.int .i64 x), .raw (.int .i64 y)] h (fun r => r = .raw (.bool (allI zs x y))) := by
  refine PW.scalar ?_
  refine start (P := Try.prog) [[0, 1, 2], [0, 1, 2], [0, 1, 2, 7], [0, 1, 2, 7], [0, 1, 2, 7], [], []] (by kernel_rfl) Try.func37 rfl (by decide) (by decide +kernel) (rs := [.tmp 6]) rfl rfl (Nat.le_of_ble_eq_true rfl) ?_
  intro wf
  repeat (first | rw [kz_o] | rw [kz_r0] | simp -dsimp -implicitDefEqProofs only [go_sem, Nat.reduceBEq, Nat.reduceAdd, Nat.reduceLeDiff, Nat.reduceMul, Int.reduceLE, Int.reduceLT, Int.reduceBEq])
  refine lz_keep [0, 1, 2] (fun m e h' => h' = h ∧ ∃ k : Nat, look e 7 .mk = .raw (.int .i64 k) ∧ m + k = zs.length ∧ ∀ j : Nat, j < k → inI (zs.getD j default) x y = true) zs.length ?_ ?_
  · exact ⟨rfl, 0, by simp -dsimp -implicitDefEqProofs only [go_sem, Nat.reduceBEq, Nat.reduceAdd, Nat.reduceLeDiff, Nat.reduceMul, Int.reduceLE, Int.reduceLT, Int.reduceBEq], by omega, fun j hj => by omega⟩
  · rintro m e h hks ⟨rfl, k, e4, hk, hpre⟩
    simp -dsimp -implicitDefEqProofs only [go_sem, Nat.reduceBEq, Nat.reduceAdd, Nat.reduceLeDiff, Nat.reduceMul, Int.reduceLE, Int.reduceLT, Int.reduceBEq] at hks
    repeat (first | rw [kz_o] | rw [kz_r0] | simp -dsimp -implicitDefEqProofs only [go_sem, Nat.reduceBEq, Nat.reduceAdd, Nat.reduceLeDiff, Nat.reduceMul, Int.reduceLE, Int.reduceLT, Int.reduceBEq, hks, e4])
    refine gz_dec (fun h2 => ?_) (fun h2 => ?_)
    · have h3 : k < zs.length := by omega
      repeat (first | rw [kz_o] | rw [kz_r0] | simp -dsimp -implicitDefEqProofs only [go_sem, Nat.reduceBEq, Nat.reduceAdd, Nat.reduceLeDiff, Nat.reduceMul, Int.reduceLE, Int.reduceLT, Int.reduceBEq, hks, e4, h3])
      refine wz_intro l01In_ok ?_
      rintro _ h' ⟨rfl, rfl⟩
      cases hi : inI (zs.getD k default) x y
      · repeat (first | rw [kz_o] | rw [kz_r0] | simp -dsimp -implicitDefEqProofs only [go_sem, Nat.reduceBEq, Nat.reduceAdd, Nat.reduceLeDiff, Nat.reduceMul, Int.reduceLE, Int.reduceLT, Int.reduceBEq])
        exact ⟨H2.le.refl _, ⟨_, rfl⟩, by rw [allI, all_none h3 hi]⟩
      · repeat (first | rw [kz_o] | rw [kz_r0] | simp -dsimp -implicitDefEqProofs only [go_sem, Nat.reduceBEq, Nat.reduceAdd, Nat.reduceLeDiff, Nat.reduceMul, Int.reduceLE, Int.reduceLT, Int.reduceBEq, hks, e4, wrap_succ h3 hn0])
        refine nx_keep (m - 1) (by omega) (by simp -dsimp -implicitDefEqProofs only [go_sem, Nat.reduceBEq, Nat.reduceAdd, Nat.reduceLeDiff, Nat.reduceMul, Int.reduceLE, Int.reduceLT, Int.reduceBEq, hks]) ⟨rfl, k + 1, by simp -dsimp -implicitDefEqProofs only [go_sem, Nat.reduceBEq, Nat.reduceAdd, Nat.reduceLeDiff, Nat.reduceMul, Int.reduceLE, Int.reduceLT, Int.reduceBEq], by omega, fun j hj => ?_⟩
        by_cases hji : j = k
        · subst hji; exact hi
        · exact hpre j (by omega)
    · repeat (first | rw [kz_o] | rw [kz_r0] | simp -dsimp -implicitDefEqProofs only [go_sem, Nat.reduceBEq, Nat.reduceAdd, Nat.reduceLeDiff, Nat.reduceMul, Int.reduceLE, Int.reduceLT, Int.reduceBEq, hks, e4])
      exact ⟨H2.le.refl _, ⟨_, rfl⟩, by rw [allI, all_getD fun j hj => hpre j (by omega)]⟩

/-! ### Configs -/
def stopsOk (ss : List ByteArray) : Bool := ss.all fun s => inI s.size 1 8
def cfgOk (c : LConfig) : Bool := inI c.top 1 8 && (inI c.seed 0 1000000000 && (inI c.new 1 24 && (decide ((c.stops.length : Int) ≤ 3) && stopsOk c.stops)))
theorem cfg1_ok (s : ByteArray) {h : H2} : WC2 Try.prog W0 112 ([.raw (.string s)] ++ ([] : List Value).map .raw) h (fun v h' => v = .raw (.bool (!inI s.size 1 8)) ∧ h' = h) := by
  simp only [List.cons_append, List.nil_append, List.map_nil, List.append_nil]
  refine start (P := Try.prog) [[0], [0]] (by kernel_rfl) Try.func112 rfl (by decide) (by decide +kernel) (rs := [.tmp 2]) rfl rfl (Nat.le_of_ble_eq_true rfl) ?_
  intro wf
  repeat (first | rw [kz_o] | rw [kz_r0] | simp -dsimp -implicitDefEqProofs only [go_sem, Nat.reduceBEq, Nat.reduceAdd, Nat.reduceLeDiff, Nat.reduceMul, Int.reduceLE, Int.reduceLT, Int.reduceBEq])
  refine wz_intro in_ok ?_
  rintro _ h' ⟨rfl, rfl⟩
  repeat (first | rw [kz_o] | rw [kz_r0] | simp -dsimp -implicitDefEqProofs only [go_sem, Nat.reduceBEq, Nat.reduceAdd, Nat.reduceLeDiff, Nat.reduceMul, Int.reduceLE, Int.reduceLT, Int.reduceBEq])
  exact ⟨rfl, rfl⟩
theorem implConfigOk_ok {F : Nat → Adr} {c : LConfig} {h : H2} (hn0 : c.stops.length ≤ 9223372036854775807) : PW Try.prog W0 78 [.st (xConfig F c)] h (fun r => r = .raw (.bool (cfgOk c))) := by
  refine PW.scalar ?_
  refine start (P := Try.prog) [[0], [1]] (by kernel_rfl) Try.func78 rfl (by decide) (by decide +kernel) (rs := [.tmp 2]) rfl rfl (Nat.le_of_ble_eq_true rfl) ?_
  intro wf
  repeat (first | rw [kz_o] | rw [kz_r0] | simp -dsimp -implicitDefEqProofs only [go_sem, Nat.reduceBEq, Nat.reduceAdd, Nat.reduceLeDiff, Nat.reduceMul, Int.reduceLE, Int.reduceLT, Int.reduceBEq])
  refine wz_intro in_ok ?_
  rintro _ h' ⟨rfl, rfl⟩
  unfold cfgOk
  cases h1 : inI c.top 1 8
  · repeat (first | rw [kz_o] | rw [kz_r0] | simp -dsimp -implicitDefEqProofs only [go_sem, Nat.reduceBEq, Nat.reduceAdd, Nat.reduceLeDiff, Nat.reduceMul, Int.reduceLE, Int.reduceLT, Int.reduceBEq])
    exact ⟨H2.le_push1 h _, ⟨_, rfl⟩, rfl⟩
  repeat (first | rw [kz_o] | rw [kz_r0] | simp -dsimp -implicitDefEqProofs only [go_sem, Nat.reduceBEq, Nat.reduceAdd, Nat.reduceLeDiff, Nat.reduceMul, Int.reduceLE, Int.reduceLT, Int.reduceBEq])
  refine wz_intro in_ok ?_
  rintro _ h' ⟨rfl, rfl⟩
  cases h2 : inI c.seed 0 1000000000
  · repeat (first | rw [kz_o] | rw [kz_r0] | simp -dsimp -implicitDefEqProofs only [go_sem, Nat.reduceBEq, Nat.reduceAdd, Nat.reduceLeDiff, Nat.reduceMul, Int.reduceLE, Int.reduceLT, Int.reduceBEq])
    exact ⟨H2.le_push1 h _, ⟨_, rfl⟩, rfl⟩
  repeat (first | rw [kz_o] | rw [kz_r0] | simp -dsimp -implicitDefEqProofs only [go_sem, Nat.reduceBEq, Nat.reduceAdd, Nat.reduceLeDiff, Nat.reduceMul, Int.reduceLE, Int.reduceLT, Int.reduceBEq])
  refine wz_intro in_ok ?_
  rintro _ h' ⟨rfl, rfl⟩
  cases h3 : inI c.new 1 24
  · repeat (first | rw [kz_o] | rw [kz_r0] | simp -dsimp -implicitDefEqProofs only [go_sem, Nat.reduceBEq, Nat.reduceAdd, Nat.reduceLeDiff, Nat.reduceMul, Int.reduceLE, Int.reduceLT, Int.reduceBEq])
    exact ⟨H2.le_push1 h _, ⟨_, rfl⟩, rfl⟩
  repeat (first | rw [kz_o] | rw [kz_r0] | simp -dsimp -implicitDefEqProofs only [go_sem, Nat.reduceBEq, Nat.reduceAdd, Nat.reduceLeDiff, Nat.reduceMul, Int.reduceLE, Int.reduceLT, Int.reduceBEq])
  refine gz_dec (fun h4 => ?_) (fun h4 => ?_)
  · repeat (first | rw [kz_o] | rw [kz_r0] | simp -dsimp -implicitDefEqProofs only [go_sem, Nat.reduceBEq, Nat.reduceAdd, Nat.reduceLeDiff, Nat.reduceMul, Int.reduceLE, Int.reduceLT, Int.reduceBEq, h4])
    refine wz_intro (containsS_ok (caps := []) hn0 (fun s => cfg1_ok s)) ?_
    rintro _ h' ⟨rfl, rfl⟩
    repeat (first | rw [kz_o] | rw [kz_r0] | simp -dsimp -implicitDefEqProofs only [go_sem, Nat.reduceBEq, Nat.reduceAdd, Nat.reduceLeDiff, Nat.reduceMul, Int.reduceLE, Int.reduceLT, Int.reduceBEq, h4])
    exact ⟨H2.le_push1 h _, ⟨_, rfl⟩, by simp only [stopsOk, List.all_eq_not_any_not, h4, decide_true, Bool.true_and]⟩
  · repeat (first | rw [kz_o] | rw [kz_r0] | simp -dsimp -implicitDefEqProofs only [go_sem, Nat.reduceBEq, Nat.reduceAdd, Nat.reduceLeDiff, Nat.reduceMul, Int.reduceLE, Int.reduceLT, Int.reduceBEq, h4])
    exact ⟨H2.le_push1 h _, ⟨_, rfl⟩, by simp only [h4, decide_false, Bool.true_and, Bool.false_and]⟩
theorem specConfigOk_ok {F : Nat → Adr} {c : LConfig} {h : H2} (hn0 : c.stops.length ≤ 9223372036854775807) : PW Try.prog W0 39 [.st (xConfig F c)] h (fun r => r = .raw (.bool (cfgOk c))) := by
  refine PW.scalar ?_
  refine start (P := Try.prog) [[0], [1], [], [1], [1, 3], [1, 3], [1, 3], [], []] (by kernel_rfl) Try.func39 rfl (by decide) (by decide +kernel) (rs := [.tmp 2]) rfl rfl (Nat.le_of_ble_eq_true rfl) ?_
  intro wf
  repeat (first | rw [kz_o] | rw [kz_r0] | simp -dsimp -implicitDefEqProofs only [go_sem, Nat.reduceBEq, Nat.reduceAdd, Nat.reduceLeDiff, Nat.reduceMul, Int.reduceLE, Int.reduceLT, Int.reduceBEq])
  refine wz_intro l01In_ok ?_
  rintro _ h' ⟨rfl, rfl⟩
  unfold cfgOk
  cases h1 : inI c.top 1 8
  · repeat (first | rw [kz_o] | rw [kz_r0] | simp -dsimp -implicitDefEqProofs only [go_sem, Nat.reduceBEq, Nat.reduceAdd, Nat.reduceLeDiff, Nat.reduceMul, Int.reduceLE, Int.reduceLT, Int.reduceBEq])
    exact ⟨H2.le_push1 h _, ⟨_, rfl⟩, rfl⟩
  repeat (first | rw [kz_o] | rw [kz_r0] | simp -dsimp -implicitDefEqProofs only [go_sem, Nat.reduceBEq, Nat.reduceAdd, Nat.reduceLeDiff, Nat.reduceMul, Int.reduceLE, Int.reduceLT, Int.reduceBEq])
  refine wz_intro l01In_ok ?_
  rintro _ h' ⟨rfl, rfl⟩
  cases h2 : inI c.seed 0 1000000000
  · repeat (first | rw [kz_o] | rw [kz_r0] | simp -dsimp -implicitDefEqProofs only [go_sem, Nat.reduceBEq, Nat.reduceAdd, Nat.reduceLeDiff, Nat.reduceMul, Int.reduceLE, Int.reduceLT, Int.reduceBEq])
    exact ⟨H2.le_push1 h _, ⟨_, rfl⟩, rfl⟩
  repeat (first | rw [kz_o] | rw [kz_r0] | simp -dsimp -implicitDefEqProofs only [go_sem, Nat.reduceBEq, Nat.reduceAdd, Nat.reduceLeDiff, Nat.reduceMul, Int.reduceLE, Int.reduceLT, Int.reduceBEq])
  refine wz_intro l01In_ok ?_
  rintro _ h' ⟨rfl, rfl⟩
  cases h3 : inI c.new 1 24
  · repeat (first | rw [kz_o] | rw [kz_r0] | simp -dsimp -implicitDefEqProofs only [go_sem, Nat.reduceBEq, Nat.reduceAdd, Nat.reduceLeDiff, Nat.reduceMul, Int.reduceLE, Int.reduceLT, Int.reduceBEq])
    exact ⟨H2.le_push1 h _, ⟨_, rfl⟩, rfl⟩
  repeat (first | rw [kz_o] | rw [kz_r0] | simp -dsimp -implicitDefEqProofs only [go_sem, Nat.reduceBEq, Nat.reduceAdd, Nat.reduceLeDiff, Nat.reduceMul, Int.reduceLE, Int.reduceLT, Int.reduceBEq])
  refine gz_dec (fun h4 => ?_) (fun h4 => ?_)
  · have h5 : ¬ (c.stops.length : Int) ≤ 3 := by omega
    repeat (first | rw [kz_o] | rw [kz_r0] | simp -dsimp -implicitDefEqProofs only [go_sem, Nat.reduceBEq, Nat.reduceAdd, Nat.reduceLeDiff, Nat.reduceMul, Int.reduceLE, Int.reduceLT, Int.reduceBEq, h4])
    exact ⟨H2.le_push1 h _, ⟨_, rfl⟩, by simp [h5]⟩
  · have h5 : (c.stops.length : Int) ≤ 3 := by omega
    repeat (first | rw [kz_o] | rw [kz_r0] | simp -dsimp -implicitDefEqProofs only [go_sem, Nat.reduceBEq, Nat.reduceAdd, Nat.reduceLeDiff, Nat.reduceMul, Int.reduceLE, Int.reduceLT, Int.reduceBEq, h4])
    refine lz_keep [1] (fun m e h' => h' = h.push ⟨4, xConfig F c⟩ ∧ ∃ k : Nat, look e 3 .mk = .raw (.int .i64 k) ∧ m + k = c.stops.length ∧ ∀ j : Nat, j < k → inI (c.stops.getD j default).size 1 8 = true) c.stops.length ?_ ?_
    · exact ⟨by simp only [xConfig], 0, by simp -dsimp -implicitDefEqProofs only [go_sem, Nat.reduceBEq, Nat.reduceAdd, Nat.reduceLeDiff, Nat.reduceMul, Int.reduceLE, Int.reduceLT, Int.reduceBEq], by omega, fun j hj => by omega⟩
    · rintro m e h hks ⟨rfl, k, e4, hk, hpre⟩
      simp -dsimp -implicitDefEqProofs only [go_sem, Nat.reduceBEq, Nat.reduceAdd, Nat.reduceLeDiff, Nat.reduceMul, Int.reduceLE, Int.reduceLT, Int.reduceBEq] at hks
      repeat (first | rw [kz_o] | rw [kz_r0] | simp -dsimp -implicitDefEqProofs only [go_sem, Nat.reduceBEq, Nat.reduceAdd, Nat.reduceLeDiff, Nat.reduceMul, Int.reduceLE, Int.reduceLT, Int.reduceBEq, hks, e4])
      refine gz_dec (fun h2 => ?_) (fun h2 => ?_)
      · have h3 : k < c.stops.length := by omega
        repeat (first | rw [kz_o] | rw [kz_r0] | simp -dsimp -implicitDefEqProofs only [go_sem, Nat.reduceBEq, Nat.reduceAdd, Nat.reduceLeDiff, Nat.reduceMul, Int.reduceLE, Int.reduceLT, Int.reduceBEq, hks, e4, h3])
        refine wz_intro l01In_ok ?_
        rintro _ h' ⟨rfl, rfl⟩
        cases hi : inI (c.stops.getD k default).size 1 8
        · repeat (first | rw [kz_o] | rw [kz_r0] | simp -dsimp -implicitDefEqProofs only [go_sem, Nat.reduceBEq, Nat.reduceAdd, Nat.reduceLeDiff, Nat.reduceMul, Int.reduceLE, Int.reduceLT, Int.reduceBEq])
          exact ⟨H2.le_push1 _ _, ⟨_, rfl⟩, by rw [stopsOk, all_none h3 hi]; simp⟩
        · repeat (first | rw [kz_o] | rw [kz_r0] | simp -dsimp -implicitDefEqProofs only [go_sem, Nat.reduceBEq, Nat.reduceAdd, Nat.reduceLeDiff, Nat.reduceMul, Int.reduceLE, Int.reduceLT, Int.reduceBEq, hks, e4, wrap_succ h3 hn0])
          refine nx_keep (m - 1) (by omega) (by simp -dsimp -implicitDefEqProofs only [go_sem, Nat.reduceBEq, Nat.reduceAdd, Nat.reduceLeDiff, Nat.reduceMul, Int.reduceLE, Int.reduceLT, Int.reduceBEq, hks]) ⟨rfl, k + 1, by simp -dsimp -implicitDefEqProofs only [go_sem, Nat.reduceBEq, Nat.reduceAdd, Nat.reduceLeDiff, Nat.reduceMul, Int.reduceLE, Int.reduceLT, Int.reduceBEq], by omega, fun j hj => ?_⟩
          by_cases hji : j = k
          · subst hji; exact hi
          · exact hpre j (by omega)
      · repeat (first | rw [kz_o] | rw [kz_r0] | simp -dsimp -implicitDefEqProofs only [go_sem, Nat.reduceBEq, Nat.reduceAdd, Nat.reduceLeDiff, Nat.reduceMul, Int.reduceLE, Int.reduceLT, Int.reduceBEq, hks, e4])
        exact ⟨H2.le_push1 _ _, ⟨_, rfl⟩, by rw [stopsOk, all_getD fun j hj => hpre j (by omega)]; simp [h5]⟩
end Go.Bi
