/- Own lemmas that the theorem of this claim needs: the abstract machine and walks of functions. -/
import Derived.Test.YtjofbadmkigkjaaGreatDoorVdLawAH
import Derived.Shelf.Strconv.Itoa3
set_option linter.unusedSimpArgs false
set_option linter.unusedVariables false
open Nat renaming reduceBEq → rq1, reduceAdd → rq2, reduceLeDiff → rq3, reduceMul → rq4
open Int renaming reduceLE → rq5, reduceLT → rq6, reduceBEq → rq7
section
set_option maxRecDepth 20000
namespace Go.Bi
open Go.Proofs
open Go.Ai (wrap_i64 wrap_u8 Heap)
variable {W0 : World} {P : Program}
theorem any_getD {α : Type} [Inhabited α] {ss : List α} {p : α → Bool} {k : Nat} (hk : k < ss.length) (h : p (ss.getD k default) = true) : ss.any p = true :=
 List.any_eq_true.2 ⟨_, List.getElem_mem hk, by rw [List.getD_eq_getElem?_getD, List.getElem?_eq_getElem hk] at h; exact h⟩
theorem any_none {α : Type} [Inhabited α] {ss : List α} {p : α → Bool} (h : ∀ j, j < ss.length → p (ss.getD j default) = false) : ss.any p = false := by
 rw [List.any_eq_false]
 intro x hx
 obtain ⟨j, hj, rfl⟩ := List.getElem_of_mem hx
 have := h j hj
 rw [List.getD_eq_getElem?_getD, List.getElem?_eq_getElem hj] at this
 simpa using this
theorem all_none {α : Type} [Inhabited α] {ss : List α} {p : α → Bool} {k : Nat} (hk : k < ss.length) (h : p (ss.getD k default) = false) : ss.all p = false := by
 rw [List.all_eq_not_any_not, any_getD hk (p := fun x => !p x) (by simp only [h]; rfl)]; rfl
theorem all_getD {α : Type} [Inhabited α] {ss : List α} {p : α → Bool} (h : ∀ j, j < ss.length → p (ss.getD j default) = true) : ss.all p = true := by
 rw [List.all_eq_not_any_not, any_none (p := fun x => !p x) (fun j hj => by simp only [h j hj]; rfl)]; rfl
theorem indexS_ok {F : FuncId} {p : ByteArray → Bool} {caps : List Value} {f : Adr} {ss : List ByteArray} {h : H2} (hn0 : ss.length ≤ 9223372036854775807)
  (hf : ∀ s, WC2 Tryz.prog W0 F ([.raw (.string s)] ++ caps.map .raw) h (fun v h' => v = .raw (.bool (p s)) ∧ h' = h)) :
  WC2 Tryz.prog W0 186 [.sl f 1 (strs ss), .raw (.func (.func F) #[] caps.toArray)] h (fun v h' => (∃ k : Int, v = .raw (.int .i64 k) ∧ decide (0 ≤ k) = ss.any p) ∧ h' = h) := by
 refine begins [[0, 1], [0, 1], [0, 1, 7, 8], [0, 1, 7, 8], [0, 1, 5, 7, 8], [5], [0, 1, 7, 8], []] Tryz.func186 rfl (rs := [.tmp 4]) rfl rfl ?_
 intro wf
 repeat (first | rw [ko] | rw [kr] | simp -dsimp -implicitDefEqProofs only [go_sem])
 refine lz_keep [0, 1, 7] (fun m e h' => h' = h ∧ ∃ k : Nat, look e 8 .mk = .raw (.int .i64 k) ∧ m + k = ss.length ∧ ∀ j : Nat, j < k → p (ss.getD j default) = false) ss.length ?_ ?_
 ·exact ⟨rfl, 0, zsm, by omega, fun j hj => by omega⟩
 ·rintro m e h hks ⟨rfl, k, e8, hk, hpre⟩
  simp -dsimp -implicitDefEqProofs only [go_sem, rq1] at hks
  repeat (first | rw [ko] | rw [kr] | simp -dsimp -implicitDefEqProofs only [go_sem, hks, e8])
  refine gz_dec (fun h2 => ?_) (fun h2 => ?_)
  ·have h3 : k < ss.length := by omega
   repeat (first | rw [ko] | rw [kr] | simp -dsimp -implicitDefEqProofs only [go_sem, rq1, h3])
   refine wz_intro (hf _) ?_
   rintro _ h' ⟨rfl, rfl⟩
   repeat (first | rw [ko] | rw [kr] | simp -dsimp -implicitDefEqProofs only [go_sem])
   refine gz_intro (fun h4 => ?_) (fun h4 => ?_)
   ·repeat (first | rw [ko] | rw [kr] | simp -dsimp -implicitDefEqProofs only [go_sem, rq1])
    exact ⟨⟨_, rfl, by rw [any_getD h3 h4]; simp⟩, rfl⟩
   ·repeat (first | rw [ko] | rw [kr] | simp -dsimp -implicitDefEqProofs only [go_sem, rq1, wrap_succ h3 hn0])
    refine nx_keep (m - 1) (by omega) zsm ⟨rfl, k + 1, zsm, by omega, fun j hj => ?_⟩
    by_cases hji : j = k
    ·subst hji; exact h4
    ·exact hpre j (by omega)
  ·repeat (first | rw [ko] | rw [kr] | simp -dsimp -implicitDefEqProofs only [go_sem])
   exact ⟨⟨_, rfl, by rw [any_none fun j hj => hpre j (by omega)]; rfl⟩, rfl⟩
theorem containsS_ok {F : FuncId} {p : ByteArray → Bool} {caps : List Value} {f : Adr} {ss : List ByteArray} {h : H2} (hn0 : ss.length ≤ 9223372036854775807)
  (hf : ∀ s, WC2 Tryz.prog W0 F ([.raw (.string s)] ++ caps.map .raw) h (fun v h' => v = .raw (.bool (p s)) ∧ h' = h)) :
  WC2 Tryz.prog W0 162 [.sl f 1 (strs ss), .raw (.func (.func F) #[] caps.toArray)] h (fun v h' => v = .raw (.bool (ss.any p)) ∧ h' = h) := by
 refine begins [[0, 1], [0, 1]] Tryz.func162 rfl (rs := [.tmp 4]) rfl rfl ?_
 intro wf
 repeat (first | rw [ko] | rw [kr] | simp -dsimp -implicitDefEqProofs only [go_sem])
 refine wz_intro (indexS_ok hn0 hf) ?_
 rintro _ h' ⟨⟨k, rfl, hk⟩, rfl⟩
 repeat (first | rw [ko] | rw [kr] | simp -dsimp -implicitDefEqProofs only [go_sem, hk])
 exact ⟨rfl, rfl⟩
theorem containsI_ok {F : FuncId} {p : Int → Bool} {caps : List Value} {f : Adr} {ss : List Int} {h : H2} (hn0 : ss.length ≤ 9223372036854775807)
  (hf : ∀ s, WC2 Tryz.prog W0 F ([.raw (.int .i64 s)] ++ caps.map .raw) h (fun v h' => v = .raw (.bool (p s)) ∧ h' = h)) :
  WC2 Tryz.prog W0 156 [.sl f 1 (ints ss), .raw (.func (.func F) #[] caps.toArray)] h (fun v h' => v = .raw (.bool (ss.any p)) ∧ h' = h) := by
 refine begins [[0, 1], [0, 1]] Tryz.func156 rfl (rs := [.tmp 4]) rfl rfl ?_
 intro wf
 repeat (first | rw [ko] | rw [kr] | simp -dsimp -implicitDefEqProofs only [go_sem])
 refine wz_intro (indexI_ok hn0 hf) ?_
 rintro _ h' ⟨⟨k, rfl, hk⟩, rfl⟩
 repeat (first | rw [ko] | rw [kr] | simp -dsimp -implicitDefEqProofs only [go_sem, hk])
 exact ⟨rfl, rfl⟩
theorem allIn1_ok {b1 b2 z1 z2 : Nat} {x y : Int} {h : H2} (h1 : hg h b1 .mk = some ⟨z1, [.raw (.int .i64 x)]⟩) (h2 : hg h b2 .mk = some ⟨z2, [.raw (.int .i64 y)]⟩) (s : Int) :
  WC2 Tryz.prog W0 157 ([.raw (.int .i64 s)] ++ [Value.pointer (some ⟨b1, 0, none⟩), .pointer (some ⟨b2, 0, none⟩)].map .raw) h (fun v h' => v = .raw (.bool (!inI s x y)) ∧ h' = h) := by
 simp only [List.cons_append, List.nil_append, List.map_cons, List.map_nil]
 refine begins [[0, 1, 2], [0, 1, 2]] Tryz.func157 rfl (rs := [.tmp 4]) rfl rfl ?_
 intro wf
 repeat (first | rw [ko] | rw [kr] | simp -dsimp -implicitDefEqProofs only [go_sem, h1, h2])
 refine wz_intro in_ok ?_
 rintro _ h' ⟨rfl, rfl⟩
 repeat (first | rw [ko] | rw [kr] | simp -dsimp -implicitDefEqProofs only [go_sem])
 exact ⟨rfl, rfl⟩
def allI (zs : List Int) (x y : Int) : Bool := zs.all fun s => inI s x y
theorem allIn_ok {f : Adr} {zs : List Int} {x y : Int} {h : H2} (hn0 : zs.length ≤ 9223372036854775807) :
  PW Tryz.prog W0 124 [.sl f 1 (ints zs), .raw (.int .i64 x), .raw (.int .i64 y)] h (fun r => r = .raw (.bool (allI zs x y))) := by
 refine PW.scalar ?_
 refine begins [[0, 1, 2], [0, 4, 5]] Tryz.func124 rfl (rs := [.tmp 6]) rfl rfl ?_
 intro wf
 repeat (first | rw [ko] | rw [kr] | simp -dsimp -implicitDefEqProofs only [go_sem, rq1])
 refine wz_intro (containsI_ok hn0 (allIn1_ok (x := x) (y := y) (z1 := 1) (z2 := 1) ?_ ?_)) ?_
 ·simp -dsimp -implicitDefEqProofs only [go_sem]
 ·simp -dsimp -implicitDefEqProofs only [go_sem]
 rintro _ h' ⟨rfl, rfl⟩
 repeat (first | rw [ko] | rw [kr] | simp -dsimp -implicitDefEqProofs only [go_sem])
 exact ⟨le_push (H2.le_push1 h _), ⟨_, rfl⟩, by rw [allI, List.all_eq_not_any_not]⟩
theorem l05All_ok {f : Adr} {zs : List Int} {x y : Int} {h : H2} (hn0 : zs.length ≤ 9223372036854775807) :
  PW Tryz.prog W0 87 [.sl f 1 (ints zs), .raw (.int .i64 x), .raw (.int .i64 y)] h (fun r => r = .raw (.bool (allI zs x y))) := by
 refine PW.scalar ?_
 refine begins [[0, 1, 2], [0, 1, 2], [0, 1, 2, 7], [0, 1, 2, 7], [0, 1, 2, 7], [], []] Tryz.func87 rfl (rs := [.tmp 6]) rfl rfl ?_
 intro wf
 repeat (first | rw [ko] | rw [kr] | simp -dsimp -implicitDefEqProofs only [go_sem, rq1])
 refine lz_keep [0, 1, 2] (fun m e h' => h' = h ∧ ∃ k : Nat, look e 7 .mk = .raw (.int .i64 k) ∧ m + k = zs.length ∧ ∀ j : Nat, j < k → inI (zs.getD j default) x y = true) zs.length ?_ ?_
 ·exact ⟨rfl, 0, zsm, by omega, fun j hj => by omega⟩
 ·rintro m e h hks ⟨rfl, k, e4, hk, hpre⟩
  simp -dsimp -implicitDefEqProofs only [go_sem, rq1] at hks
  repeat (first | rw [ko] | rw [kr] | simp -dsimp -implicitDefEqProofs only [go_sem, rq1, hks, e4])
  refine gz_dec (fun h2 => ?_) (fun h2 => ?_)
  ·have h3 : k < zs.length := by omega
   repeat (first | rw [ko] | rw [kr] | simp -dsimp -implicitDefEqProofs only [go_sem, rq1, h3])
   refine wz_intro l01In_ok ?_
   rintro _ h' ⟨rfl, rfl⟩
   cases hi : inI (zs.getD k default) x y
   ·repeat (first | rw [ko] | rw [kr] | simp -dsimp -implicitDefEqProofs only [go_sem])
    exact ⟨H2.le.refl _, ⟨_, rfl⟩, by rw [allI, all_none h3 hi]⟩
   ·repeat (first | rw [ko] | rw [kr] | simp -dsimp -implicitDefEqProofs only [go_sem, rq1, wrap_succ h3 hn0])
    refine nx_keep (m - 1) (by omega) zsm ⟨rfl, k + 1, zsm, by omega, fun j hj => ?_⟩
    by_cases hji : j = k
    ·subst hji; exact hi
    ·exact hpre j (by omega)
  ·repeat (first | rw [ko] | rw [kr] | simp -dsimp -implicitDefEqProofs only [go_sem])
   exact ⟨H2.le.refl _, ⟨_, rfl⟩, by rw [allI, all_getD fun j hj => hpre j (by omega)]⟩
def stopsOk (ss : List ByteArray) : Bool := ss.all fun s => inI s.size 1 8
def cfgOk (c : LConfig) : Bool := inI c.top 1 8 && (inI c.seed 0 1000000000 && (inI c.new 1 24 && (decide ((c.stops.length : Int) ≤ 3) && stopsOk c.stops)))
theorem cfg1_ok (s : ByteArray) {h : H2} : WC2 Tryz.prog W0 163 ([.raw (.string s)] ++ ([] : List Value).map .raw) h (fun v h' => v = .raw (.bool (!inI s.size 1 8)) ∧ h' = h) := by
 simp only [List.map_nil, List.append_nil]
 refine begins [[0], [0]] Tryz.func163 rfl (rs := [.tmp 2]) rfl rfl ?_
 intro wf
 repeat (first | rw [ko] | rw [kr] | simp -dsimp -implicitDefEqProofs only [go_sem])
 refine wz_intro in_ok ?_
 rintro _ h' ⟨rfl, rfl⟩
 repeat (first | rw [ko] | rw [kr] | simp -dsimp -implicitDefEqProofs only [go_sem])
 exact ⟨rfl, rfl⟩
theorem implConfigOk_ok {F : Nat → Adr} {c : LConfig} {h : H2} (hn0 : c.stops.length ≤ 9223372036854775807) : PW Tryz.prog W0 132 [.st (xConfig F c)] h (fun r => r = .raw (.bool (cfgOk c))) := by
 refine PW.scalar ?_
 refine begins [[0], [1]] Tryz.func132 rfl (rs := [.tmp 2]) rfl rfl ?_
 intro wf
 repeat (first | rw [ko] | rw [kr] | simp -dsimp -implicitDefEqProofs only [go_sem])
 refine wz_intro in_ok ?_
 rintro _ h' ⟨rfl, rfl⟩
 unfold cfgOk
 cases h1 : inI c.top 1 8
 ·repeat (first | rw [ko] | rw [kr] | simp -dsimp -implicitDefEqProofs only [go_sem])
  exact ⟨H2.le_push1 h _, ⟨_, rfl⟩, rfl⟩
 repeat (first | rw [ko] | rw [kr] | simp -dsimp -implicitDefEqProofs only [go_sem, rq1])
 refine wz_intro in_ok ?_
 rintro _ h' ⟨rfl, rfl⟩
 cases h2 : inI c.seed 0 1000000000
 ·repeat (first | rw [ko] | rw [kr] | simp -dsimp -implicitDefEqProofs only [go_sem])
  exact ⟨H2.le_push1 h _, ⟨_, rfl⟩, rfl⟩
 repeat (first | rw [ko] | rw [kr] | simp -dsimp -implicitDefEqProofs only [go_sem, rq1])
 refine wz_intro in_ok ?_
 rintro _ h' ⟨rfl, rfl⟩
 cases h3 : inI c.new 1 24
 ·repeat (first | rw [ko] | rw [kr] | simp -dsimp -implicitDefEqProofs only [go_sem])
  exact ⟨H2.le_push1 h _, ⟨_, rfl⟩, rfl⟩
 repeat (first | rw [ko] | rw [kr] | simp -dsimp -implicitDefEqProofs only [go_sem, rq1])
 refine gz_dec (fun h4 => ?_) (fun h4 => ?_)
 ·repeat (first | rw [ko] | rw [kr] | simp -dsimp -implicitDefEqProofs only [go_sem, rq1, h4])
  refine wz_intro (containsS_ok (caps := []) hn0 (fun s => cfg1_ok s)) ?_
  rintro _ h' ⟨rfl, rfl⟩
  repeat (first | rw [ko] | rw [kr] | simp -dsimp -implicitDefEqProofs only [go_sem, h4])
  exact ⟨H2.le_push1 h _, ⟨_, rfl⟩, by simp only [stopsOk, List.all_eq_not_any_not, h4, decide_true, Bool.true_and]⟩
 ·repeat (first | rw [ko] | rw [kr] | simp -dsimp -implicitDefEqProofs only [go_sem, h4])
  exact ⟨H2.le_push1 h _, ⟨_, rfl⟩, by simp only [h4, decide_false, Bool.true_and, Bool.false_and]⟩
theorem specConfigOk_ok {F : Nat → Adr} {c : LConfig} {h : H2} (hn0 : c.stops.length ≤ 9223372036854775807) : PW Tryz.prog W0 93 [.st (xConfig F c)] h (fun r => r = .raw (.bool (cfgOk c))) := by
 refine PW.scalar ?_
 refine begins [[0], [1], [], [1], [1, 3], [1, 3], [1, 3], [], []] Tryz.func93 rfl (rs := [.tmp 2]) rfl rfl ?_
 intro wf
 repeat (first | rw [ko] | rw [kr] | simp -dsimp -implicitDefEqProofs only [go_sem])
 refine wz_intro l01In_ok ?_
 rintro _ h' ⟨rfl, rfl⟩
 unfold cfgOk
 cases h1 : inI c.top 1 8
 ·repeat (first | rw [ko] | rw [kr] | simp -dsimp -implicitDefEqProofs only [go_sem])
  exact ⟨H2.le_push1 h _, ⟨_, rfl⟩, rfl⟩
 repeat (first | rw [ko] | rw [kr] | simp -dsimp -implicitDefEqProofs only [go_sem, rq1])
 refine wz_intro l01In_ok ?_
 rintro _ h' ⟨rfl, rfl⟩
 cases h2 : inI c.seed 0 1000000000
 ·repeat (first | rw [ko] | rw [kr] | simp -dsimp -implicitDefEqProofs only [go_sem])
  exact ⟨H2.le_push1 h _, ⟨_, rfl⟩, rfl⟩
 repeat (first | rw [ko] | rw [kr] | simp -dsimp -implicitDefEqProofs only [go_sem, rq1])
 refine wz_intro l01In_ok ?_
 rintro _ h' ⟨rfl, rfl⟩
 cases h3 : inI c.new 1 24
 ·repeat (first | rw [ko] | rw [kr] | simp -dsimp -implicitDefEqProofs only [go_sem])
  exact ⟨H2.le_push1 h _, ⟨_, rfl⟩, rfl⟩
 repeat (first | rw [ko] | rw [kr] | simp -dsimp -implicitDefEqProofs only [go_sem, rq1])
 refine gz_dec (fun h4 => ?_) (fun h4 => ?_)
 ·have h5 : ¬ (c.stops.length : Int) ≤ 3 := by omega
  repeat (first | rw [ko] | rw [kr] | simp -dsimp -implicitDefEqProofs only [go_sem])
  exact ⟨H2.le_push1 h _, ⟨_, rfl⟩, by simp [h5]⟩
 ·have h5 : (c.stops.length : Int) ≤ 3 := by omega
  repeat (first | rw [ko] | rw [kr] | simp -dsimp -implicitDefEqProofs only [go_sem, rq1])
  refine lz_keep [1] (fun m e h' => h' = h.push ⟨4, xConfig F c⟩ ∧ ∃ k : Nat, look e 3 .mk = .raw (.int .i64 k) ∧ m + k = c.stops.length ∧ ∀ j : Nat, j < k → inI (c.stops.getD j default).size 1 8 = true) c.stops.length ?_ ?_
  ·exact ⟨by simp only [xConfig], 0, zsm, by omega, fun j hj => by omega⟩
  ·rintro m e h hks ⟨rfl, k, e4, hk, hpre⟩
   simp -dsimp -implicitDefEqProofs only [go_sem] at hks
   repeat (first | rw [ko] | rw [kr] | simp -dsimp -implicitDefEqProofs only [go_sem, rq1, hks, e4])
   refine gz_dec (fun h2 => ?_) (fun h2 => ?_)
   ·have h3 : k < c.stops.length := by omega
    repeat (first | rw [ko] | rw [kr] | simp -dsimp -implicitDefEqProofs only [go_sem, rq1, h3])
    refine wz_intro l01In_ok ?_
    rintro _ h' ⟨rfl, rfl⟩
    cases hi : inI (c.stops.getD k default).size 1 8
    ·repeat (first | rw [ko] | rw [kr] | simp -dsimp -implicitDefEqProofs only [go_sem])
     exact ⟨H2.le_push1 _ _, ⟨_, rfl⟩, by rw [stopsOk, all_none h3 hi]; simp⟩
    ·repeat (first | rw [ko] | rw [kr] | simp -dsimp -implicitDefEqProofs only [go_sem, rq1, wrap_succ h3 hn0])
     refine nx_keep (m - 1) (by omega) zsm ⟨rfl, k + 1, zsm, by omega, fun j hj => ?_⟩
     by_cases hji : j = k
     ·subst hji; exact hi
     ·exact hpre j (by omega)
   ·repeat (first | rw [ko] | rw [kr] | simp -dsimp -implicitDefEqProofs only [go_sem])
    exact ⟨H2.le_push1 _ _, ⟨_, rfl⟩, by rw [stopsOk, all_getD fun j hj => hpre j (by omega)]; simp [h5]⟩
end Go.Bi
end
section
set_option maxRecDepth 20000
namespace Go.Bi
open Go.Proofs
open Go.Ai (wrap_i64 wrap_u8)
variable {W0 : World} {P : Program}
set_option maxHeartbeats 4000000
instance : DecidableEq LMerge := fun x y => match x, y with
  | ⟨a, b⟩, ⟨c, d⟩ => if h : a = c ∧ b = d then isTrue (by rw [h.1, h.2]) else isFalse (fun e => h (by cases e; exact ⟨rfl, rfl⟩))
theorem LMerge.eq_iff {x y : LMerge} : x = y ↔ x.a = y.a ∧ x.b = y.b := by
 cases x; cases y; simp
theorem eq_merge {t : TypeId} {x y : LMerge} (hT : Go.Ai.intS? P t = some 2) : binX P .eql t (.st [.raw (.int .i64 x.a), .raw (.int .i64 x.b)]) (.st [.raw (.int .i64 y.a), .raw (.int .i64 y.b)]) = some (.raw (.bool (decide (x = y)))) := by
 rw [eq_st2 hT]
 congr 3
 rw [Bool.and_true]
 by_cases h : x = y
 ·rw [decide_eq_true h, h]; simp
 ·rw [decide_eq_false h]
  rw [LMerge.eq_iff] at h
  by_cases h1 : x.a = y.a
  ·have h2 : ¬ x.b = y.b := fun e => h ⟨h1, e⟩
   simp [h2]
  ·simp [h1]
def latM (l : List Int) (i : Nat) : Int := l.getD i 0
theorem get_M {l : List Int} {i : Nat} (h : i < l.length) : (l.map cI)[i]? = some (.raw (.int .i64 (latM l i))) := by
 rw [List.getElem?_map, List.getElem?_eq_getElem h, latM, List.getD_eq_getElem?_getD, List.getElem?_eq_getElem h]; rfl
def szOne (out : List Int) (t : Int) : Int := if t < 256 then 1 else latM out (t - 256).toNat
def mAt (l : List LMerge) (i : Nat) : LMerge := l.getD i default
def outs (l : List LMerge) : Nat → List Int
 | 0 => []
 | i + 1 => outs l i ++ [szOne (outs l i) (mAt l i).a + szOne (outs l i) (mAt l i).b]
theorem outs_len {l : List LMerge} : ∀ {i : Nat}, (outs l i).length = i
 | 0 => rfl
 | i + 1 => by rw [outs, List.length_append, outs_len]; rfl
def tokAt (l : List LMerge) (i : Nat) : Bool := inI (mAt l i).a 0 (255 + (i : Int)) && inI (mAt l i).b 0 (255 + (i : Int))
def nAt (l : List LMerge) (i : Nat) : Int := szOne (outs l i) (mAt l i).a + szOne (outs l i) (mAt l i).b
def stepOk (l : List LMerge) (i : Nat) : Bool := tokAt l i && decide (nAt l i ≤ 64)
def dupAt (l : List LMerge) (i : Nat) : Bool := decide (mAt l i ∈ l.take i)
def mergesB (l : List LMerge) : Bool := decide (l.length ≤ 16) && (List.range l.length).all fun i => stepOk l i && !dupAt l i
theorem mergesB_bad {l : List LMerge} {i : Nat} (hi : i < l.length) (h : (stepOk l i && !dupAt l i) = false) : mergesB l = false := by
 unfold mergesB
 rw [Bool.and_eq_false_iff]; right
 rw [List.all_eq_false]
 exact ⟨i, List.mem_range.2 hi, by rw [h]; simp⟩
theorem mergesB_ok {l : List LMerge} (h0 : l.length ≤ 16) (h : ∀ i, i < l.length → (stepOk l i && !dupAt l i) = true) : mergesB l = true := by
 unfold mergesB
 simp only [h0, decide_true, Bool.true_and, List.all_eq_true]
 intro i hi; exact h i (List.mem_range.1 hi)
theorem mergesB_len {l : List LMerge} (h : ¬ l.length ≤ 16) : mergesB l = false := by unfold mergesB; rw [decide_eq_false h]; rfl
theorem outs_rng {l : List LMerge} : ∀ {i : Nat}, (∀ j, j < i → stepOk l j = true) → ∀ k, k < i → 1 ≤ latM (outs l i) k ∧ latM (outs l i) k ≤ 64
 | 0, _, k, hk => by omega
 | i + 1, h, k, hk => by
  have ih := outs_rng (l := l) (i := i) fun j hj => h j (by omega)
  have hs := h i (by omega)
  unfold stepOk tokAt at hs
  simp only [Bool.and_eq_true, decide_eq_true_eq] at hs
  obtain ⟨⟨ha, hb⟩, hn⟩ := hs
  have ha := inI_t0 ha
  have hb := inI_t0 hb
  have one : ∀ t : Int, 0 ≤ t ∧ t ≤ 255 + (i : Int) → 1 ≤ szOne (outs l i) t := fun t ht => by
   unfold szOne; split
   ·omega
   ·exact (ih _ (by omega)).1
  have h1 := one _ ha
  have h2 := one _ hb
  rw [outs]
  unfold latM
  by_cases hki : k < i
  ·rw [List.getD_eq_getElem?_getD, List.getElem?_append_left (by rw [outs_len]; exact hki), ← List.getD_eq_getElem?_getD]
   exact ih k hki
  ·obtain rfl : k = i := by omega
   rw [List.getD_eq_getElem?_getD, List.getElem?_append_right (by rw [outs_len]; exact Nat.le_refl _), outs_len, Nat.sub_self]
   unfold nAt at hn
   simp only [List.getElem?_cons_zero, Option.getD_some]
   omega
where
 inI_t0 {x a b : Int} (h : inI x a b = true) : a ≤ x ∧ x ≤ b := by simpa [inI] using h
theorem inI_tt {x a b : Int} (h : inI x a b = true) : a ≤ x ∧ x ≤ b := by simpa [inI] using h
theorem one_rng {l : List LMerge} {i : Nat} {t : Int} (h : ∀ j, j < i → stepOk l j = true) (ht : 0 ≤ t ∧ t ≤ 255 + (i : Int)) : 1 ≤ szOne (outs l i) t ∧ szOne (outs l i) t ≤ 64 := by
 unfold szOne; split
 ·omega
 ·exact outs_rng h _ (by omega)
theorem indexM_ok {f : Adr} {F : Nat → Adr} {l : List LMerge} {m : LMerge} {g : H2} (hl : l.length ≤ 1048576) : PW Tryz.prog W0 180 [.sl f 2 (rMergeS l), .st (xMerge F m)] g (fun y => ∃ k : Int, y = .raw (.int .i64 k) ∧ (0 ≤ k ↔ m ∈ l)) := by
 have hT : Go.Ai.intS? Tryz.prog 126 = some 2 := by kernel_rfl
 refine PW.scalar ?_
 refine begins [[0, 1], [0, 3], [0, 3, 7, 8], [0, 3, 7, 8], [0, 3, 5, 7, 8], [5], [0, 3, 7, 8], []] Tryz.func180 rfl (rs := [.tmp 4]) rfl rfl ?_
 intro wf
 repeat (first | rw [ko] | rw [kr] | simp -dsimp -implicitDefEqProofs only [go_sem])
 refine lz_keep [0, 3, 7] (fun s e h' => ∃ i : Nat, h' = g.push ⟨2, xMerge F m⟩ ∧ look e 8 .mk = .raw (.int .i64 (i : Nat)) ∧ s + i = l.length ∧ ∀ j, j < i → mAt l j ≠ m) l.length ?_ ?_
 ·exact ⟨0, rfl, zsm, by omega, fun j hj => by omega⟩
 ·rintro s e h' hks ⟨i, rfl, e8, hsi, hpre⟩
  simp -dsimp -implicitDefEqProofs only [go_sem, rq1] at hks
  by_cases h1 : (i : Int) < (l.length : Int)
  ·have hi : i < l.length := by omega
   have hE := eq_merge (x := m) (y := l.getD i default) hT
   repeat (first | rw [ko] | rw [kr] | simp -dsimp -implicitDefEqProofs only [go_sem, rq1, hks, e8, h1])
   refine dq_intro [(0, []), (1, []), (2, []), (3, []), (4, []), (5, [])] (by kernel_rfl) ?_
   by_cases hm : m = l.getD i default
   ·repeat (first | rw [ko] | rw [kr] | simp -dsimp -implicitDefEqProofs only [go_sem, rq1, rq2, rq3, hi, hoo, hE, decide_eq_true hm])
    refine ⟨le_push (H2.le.refl _), ⟨_, rfl⟩, _, rfl, ⟨fun _ => by rw [hm]; exact getD_mem hi, fun _ => by omega⟩⟩
   ·repeat (first | rw [ko] | rw [kr] | simp -dsimp -implicitDefEqProofs only [go_sem, rq1, rq2, rq3, hi, hoo, hE, decide_eq_false hm, wrap_succ hi (by omega)])
    refine nx_keep (s - 1) (by omega) zsm ⟨i + 1, rfl, zsm, by omega, fun j hj => ?_⟩
    by_cases hji : j = i
    ·subst hji; exact fun e => hm e.symm
    ·exact hpre j (by omega)
  ·repeat (first | rw [ko] | rw [kr] | simp -dsimp -implicitDefEqProofs only [go_sem, hks, e8, h1])
   refine ⟨le_push (H2.le.refl _), ⟨_, rfl⟩, _, rfl, by
    refine ⟨fun h => absurd h (by decide), fun hm => ?_⟩
    obtain ⟨j, hj, e⟩ := List.getElem_of_mem hm
    refine absurd ?_ (hpre j (by omega))
    rw [mAt, List.getD_eq_getElem?_getD, List.getElem?_eq_getElem hj]; exact e⟩
theorem containsM_ok {f : Adr} {F : Nat → Adr} {l : List LMerge} {m : LMerge} {g : H2} (hl : l.length ≤ 1048576) : PW Tryz.prog W0 153 [.sl f 2 (rMergeS l), .st (xMerge F m)] g (fun y => y = .raw (.bool (decide (m ∈ l)))) := by
 refine PW.scalar ?_
 refine begins [[0, 1], [0, 3]] Tryz.func153 rfl (rs := [.tmp 4]) rfl rfl ?_
 intro wf
 repeat (first | rw [ko] | rw [kr] | simp -dsimp -implicitDefEqProofs only [go_sem])
 refine pw_intro (indexM_ok (F := F) hl) ?_
 rintro _ n hn' ⟨k, rfl, hk⟩
 have hd : decide (0 ≤ k) = decide (m ∈ l) := decide_eq_decide.2 hk
 repeat (first | rw [ko] | rw [kr] | simp -dsimp -implicitDefEqProofs only [go_sem, hd])
 exact ⟨le_up (le_push (H2.le.refl _)) hn', ⟨_, rfl⟩, rfl⟩
theorem isToken_ok {x k : Int} {h : H2} (hk : 0 ≤ k ∧ k ≤ 1048576) : WC2 Tryz.prog W0 182 [.raw (.int .i64 x), .raw (.int .i64 k)] h (fun v h' => v = .raw (.bool (inI x 0 (255 + k))) ∧ h' = h) := by
 refine begins [[0, 1], [0, 1]] Tryz.func182 rfl (rs := [.tmp 4]) rfl rfl ?_
 intro wf
 have w : IntKind.i64.wrap (255 + k) = 255 + k := by rw [wrap_i64] <;> omega
 repeat (first | rw [ko] | rw [kr] | simp -dsimp -implicitDefEqProofs only [go_sem, w])
 refine wz_intro in_ok ?_
 rintro _ h' ⟨rfl, rfl⟩
 repeat (first | rw [ko] | rw [kr] | simp -dsimp -implicitDefEqProofs only [go_sem])
 exact ⟨rfl, rfl⟩
theorem sizesOf1_ok {l : List LMerge} {i b N : Nat} {v : X} {t : Int} {g : H2} (hb : hg g b .mk = some ⟨1, [v]⟩) (ho : OwnI N g v (outs l i)) (ht : 0 ≤ t ∧ t ≤ 255 + (i : Int)) (hi : i ≤ 1048576) : WC2 Tryz.prog W0 181 [.raw (.int .i64 t), .raw (.pointer (some ⟨b, 0, none⟩))] g (fun y g' => y = .raw (.int .i64 (szOne (outs l i) t)) ∧ g' = g) := by
 refine begins [[0, 1], [0, 1], [], [0, 1]] Tryz.func181 rfl (rs := [.tmp 3]) rfl rfl ?_
 intro wf
 unfold szOne
 by_cases h1 : t < 256
 ·repeat (first | rw [ko] | rw [kr] | simp -dsimp -implicitDefEqProofs only [go_sem, h1])
  exact ⟨by rw [if_pos h1], rfl⟩
 ·have w : IntKind.i64.wrap (t - 256) = t - 256 := by rw [wrap_i64] <;> omega
  obtain ⟨k, hk⟩ := Int.eq_ofNat_of_zero_le (a := t - 256) (by omega)
  rw [hk]
  have w2 : IntKind.i64.wrap (t - 256) = (k : Int) := by rw [w, hk]
  have hk2 : k < (outs l i).length := by rw [outs_len]; omega
  have i0 : (0 : Int) ≤ (k : Int) ∧ (k : Int) < ((outs l i).length : Int) := by omega
  have e0 := get_M hk2
  obtain ⟨q, rfl, q1, q2, q3⟩ : ∃ q, v = .raw (.slice (some ⟨q, 0, none⟩) (outs l i).length (outs l i).length) ∧ N ≤ q ∧ q < hn g .mk ∧ hg g q .mk = some ⟨1, (outs l i).map cI⟩ := by
   obtain ⟨_, h | h⟩ := ho
   ·exact absurd h.2 (by omega)
   ·exact h
  repeat (first | rw [ko] | rw [kr] | simp -dsimp -implicitDefEqProofs only [go_sem, rq1, h1, hb, w2, i0, q3, e0])
  exact ⟨by rw [if_neg h1, Int.toNat_natCast], rfl⟩
end Go.Bi
end
section
set_option maxRecDepth 20000
namespace Go.Bi
open Go.Proofs
open Go.Ai (wrap_i64 wrap_u8)
variable {W0 : World} {P : Program}
set_option maxHeartbeats 4000000
theorem append_iM {D : Nat → Option (List Nat)} {g : H2} {K : KT} {t u U y N : Nat} {xs : List Int} {x : X} {f : Adr} {s : Int} (he : Go.Ai.elt? P t = some (U, 1, y)) (hz : Go.Ai.zr? P U = some [.int .i64 0]) (hu : Go.Ai.cls? P u = some .sl)
    (hx : OwnI N g x xs) (hN0 : N ≤ hn g .mk) (hn0 : (xs.length + 1) * (y + 1) ≤ Go.Ai.most)
    (hk : ∀ v' g', OwnI N g' v' (xs ++ [s]) → hn g .mk ≤ hn g' .mk → (∀ g0 : H2, hn g0 .mk ≤ N → g0.le g → g0.le g') → (∀ c, c < hn g .mk → blockOf x ≠ some c → hg g' c .mk = hg g c .mk) → (∀ c, blockOf v' = some c → hn g .mk ≤ c) → kz K v' g' .mk) :
    az (biz P g .append [t, u] [x, .sl f 1 [[.v (.int .i64 s)]]] .mk) K .mk := by
  have hlen0 := hx.1
  obtain ⟨_, hcase⟩ := hx
  have key : ∀ a, x = .raw (.slice a xs.length xs.length) → biz P g .append [t, u] [x, .sl f 1 [[.v (.int .i64 s)]]] .mk = (match a with
        | none => some (.raw (.slice (some ⟨g.n, 0, none⟩) 1 1), g.push ⟨0 + 1, [cI s]⟩)
        | some a => match g.get a.block with
          | some k => if k.z = 0 + 1 ∧ a.off = 0 then (rdL k.cs 0 (xs.length * (0 + 1))).map fun olds => (.raw (.slice (some ⟨g.n, 0, none⟩) (xs.length + 1) (xs.length + 1)), (g.kill a.block).push ⟨0 + 1, olds ++ [cI s]⟩) else none
          | none => none) := by
    intro a ha
    subst ha
    have hs : srcX g (0 + 1) (.sl f 1 [[.v (.int .i64 s)]]) = some (1, [cI s]) := rfl
    simp only [biz, builtinX, hu, appendX, he, hs, hz]
    rw [if_pos ⟨rfl, hn0, rfl⟩, if_neg (by decide)]
    cases a <;> rfl
  rcases hcase with ⟨rfl, h0⟩ | ⟨b, rfl, hNb, hbn, hb⟩
  · have hxs : xs = [] := List.eq_nil_of_length_eq_zero h0
    subst hxs
    rw [key none rfl]
    refine hk _ _ ⟨rfl, .inr ⟨g.n, rfl, hN0, ?_, ?_⟩⟩ ?_ ?_ ?_ ?_
    · rw [hn_push]; exact Nat.lt_succ_self _
    · rw [hg_push, show (g.n == hn g .mk) = true by simp [hn]]; rfl
    · rw [hn_push]; omega
    · intro g0 _ l0; exact le_push l0
    · intro b' hb' _
      rw [hg_push, show (b' == hn g .mk) = false by simp; omega]; rfl
    · intro c hc; simp only [blockOf, Option.some.injEq] at hc; unfold hn; omega
  · have hb' : g.get b = some ⟨1, xs.map cI⟩ := hb
    rw [key _ rfl]
    simp only [hb']
    rw [if_pos ⟨trivial, trivial⟩, rd_all (by simp)]
    have hne : (b == hn g .mk) = false := zne
    refine hk _ _ ⟨by simp, .inr ⟨g.n, by simp, ?_, ?_, ?_⟩⟩ ?_ ?_ ?_ ?_
    · unfold hn at hbn; omega
    · rw [hn_push, hn_kill]; exact Nat.lt_succ_self _
    · rw [hg_push, hn_kill, show (g.n == hn g .mk) = true by simp [hn]]; simp [hk_t]
    · rw [hn_push, hn_kill]; omega
    · intro g0 hN l0; exact le_push (le_kill l0 (by omega))
    · intro b' hb2 hne'
      have hbb : (b' == b) = false := by
        have : ¬ b' = b := fun e => hne' (by rw [e]; rfl)
        simp [this]
      rw [hg_push, hn_kill, show (b' == hn g .mk) = false by simp; omega, hk_f, hg_kill, hbb]; rfl
    · intro c hc; simp only [blockOf, Option.some.injEq] at hc; unfold hn; omega
theorem ownI_cell {N : Nat} {g : H2} {v : X} {zs : List Int} (o : OwnI N g v zs) : cellsX v = some [v] ∧ okX v = true ∧ isTpX v = false := by
 obtain ⟨_, h⟩ := o
 rcases h with ⟨rfl, _⟩ | ⟨b, rfl, _⟩ <;> exact ⟨rfl, rfl, rfl⟩
theorem ownI_frame {N : Nat} {g g' : H2} {v : X} {zs : List Int} (o : OwnI N g v zs) (hn' : hn g .mk ≤ hn g' .mk) (hk : ∀ c, blockOf v = some c → c < hn g .mk → hg g' c .mk = hg g c .mk) : OwnI N g' v zs := by
 obtain ⟨h0, h⟩ := o
 refine ⟨h0, h.imp_right ?_⟩
 rintro ⟨b, e1, e2, e3, e4⟩
 exact ⟨b, e1, e2, Nat.lt_of_lt_of_le e3 hn', by rw [hk b (by rw [e1]; rfl) e3]; exact e4⟩
theorem sizesOf_ok {f : Adr} {l : List LMerge} {g : H2} (hl : l.length ≤ 16) : WC2 Tryz.prog W0 154 [.sl f 2 (rMergeS l)] g (fun x g' => g.le g' ∧ ∃ v, x = .tp [v, .raw (.bool ((List.range l.length).all (stepOk l)))] ∧ isTpX v = false) := by
 have bad : ∀ i, i < l.length → stepOk l i = false → (List.range l.length).all (stepOk l) = false := fun i hi h => by
  rw [List.all_eq_false]; exact ⟨i, List.mem_range.2 hi, by rw [h]; simp⟩
 refine begins [[0], [0], [0, 4], [0, 4, 5], [4, 5, 11, 12, 13], [4, 5, 11, 12, 13], [4, 5, 6, 7, 11, 12, 13], [], [4, 5, 7, 11, 12, 13], [4, 5, 8, 11, 12, 13], [], [4, 5, 8, 11, 12, 13], [4, 5, 11, 12, 13], [4]] Tryz.func154 rfl (rs := [.tmp 2, .tmp 3]) rfl rfl ?_
 intro wf
 repeat (first | rw [ko] | rw [kr] | simp -dsimp -implicitDefEqProofs only [go_sem, rq1, rq3])
 refine lz_keep [4, 5, 11, 12] (fun m e h' => ∃ (i : Nat) (v : X), look e 13 .mk = .raw (.int .i64 (i : Nat)) ∧ m + i = l.length ∧ hg h' (hn g .mk + 1) .mk = some ⟨1, [v]⟩ ∧ OwnI (hn g .mk) h' v (outs l i) ∧ (∀ c, blockOf v = some c → c ≠ hn g .mk + 1) ∧ g.le h' ∧ hn g .mk + 2 ≤ hn h' .mk ∧ ∀ j, j < i → stepOk l j = true) l.length ?_ ?_
 ·exact ⟨0, .raw (.slice (some ⟨hn g .mk, 0, none⟩) 0 0), zsm, by omega, by simp -dsimp -implicitDefEqProofs only [go_sem, hoo], ⟨rfl, .inr ⟨hn g .mk, rfl, Nat.le_refl _, by simp -dsimp -implicitDefEqProofs only [go_sem] <;> omega, by simp -dsimp -implicitDefEqProofs only [go_sem, hoo] <;> rfl⟩⟩, fun c hc => by simp only [blockOf, Option.some.injEq] at hc; omega, le_set (le_push (le_push (H2.le.refl _))) (by omega), by simp -dsimp -implicitDefEqProofs only [go_sem, rq3] <;> omega, fun j hj => by omega⟩
 ·rintro m e h' hks ⟨i, v, e13, hm, hbox, ow, hap, hle, hnn, hpre⟩
  simp -dsimp -implicitDefEqProofs only [go_sem, rq1] at hks
  by_cases h1 : (i : Int) < (l.length : Int)
  ·have hi : i < l.length := by omega
   repeat (first | rw [ko] | rw [kr] | simp -dsimp -implicitDefEqProofs only [go_sem, rq1, rq2, rq3, hks, e13, h1, hi, hoo])
   have hmi : l.getD i default = mAt l i := rfl
   rw [hmi]
   have hne : (hn g .mk + 1 == hn h' .mk) = false := zne
   have hb1 : hg (h'.push ⟨2, [.raw (.int .i64 (mAt l i).a), .raw (.int .i64 (mAt l i).b)]⟩) (hn g .mk + 1) .mk = some ⟨1, [v]⟩ := by rw [hg_push, hne]; exact hbox
   have ow1 := OwnI.keep ow (le_push (k := ⟨2, [.raw (.int .i64 (mAt l i).a), .raw (.int .i64 (mAt l i).b)]⟩) (H2.le.refl _))
   have le1 := le_push (k := ⟨2, [.raw (.int .i64 (mAt l i).a), .raw (.int .i64 (mAt l i).b)]⟩) hle
   refine wz_intro (isToken_ok ⟨by omega, by omega⟩) ?_
   rintro _ h2 ⟨rfl, rfl⟩
   cases ha : inI (mAt l i).a 0 (255 + (i : Int))
   ·repeat (first | rw [ko] | rw [kr] | simp -dsimp -implicitDefEqProofs only [go_sem, rq1])
    exact ⟨le1, _, by rw [bad i hi (by unfold stepOk tokAt; rw [ha]; rfl)], rfl⟩
   repeat (first | rw [ko] | rw [kr] | simp -dsimp -implicitDefEqProofs only [go_sem, rq1, hoo])
   refine wz_intro (isToken_ok ⟨by omega, by omega⟩) ?_
   rintro _ h2 ⟨rfl, rfl⟩
   cases hb : inI (mAt l i).b 0 (255 + (i : Int))
   ·repeat (first | rw [ko] | rw [kr] | simp -dsimp -implicitDefEqProofs only [go_sem, rq1])
    exact ⟨le1, _, by rw [bad i hi (by unfold stepOk tokAt; rw [ha, hb]; rfl)], rfl⟩
   have r1 := one_rng hpre (inI_tt ha)
   have r2 := one_rng hpre (inI_tt hb)
   have wn : IntKind.i64.wrap (szOne (outs l i) (mAt l i).a + szOne (outs l i) (mAt l i).b) = nAt l i := by unfold nAt; rw [wrap_i64] <;> omega
   repeat (first | rw [ko] | rw [kr] | simp -dsimp -implicitDefEqProofs only [go_sem, rq1, hoo])
   refine dq_intro [(0, []), (1, []), (2, []), (4, []), (5, []), (6, []), (3, [6]), (7, []), (8, []), (9, [])] (by kernel_rfl) ?_
   repeat (first | rw [ko] | rw [kr] | simp -dsimp -implicitDefEqProofs only [go_sem, rq1, hoo])
   refine wz_intro (sizesOf1_ok hb1 ow1 (inI_tt ha) (by omega)) ?_
   rintro _ h2 ⟨rfl, rfl⟩
   rw [kq]
   refine ⟨by simp -dsimp -implicitDefEqProofs only [go_sem, hoo], ?_⟩
   repeat (first | rw [ko] | rw [kr] | simp -dsimp -implicitDefEqProofs only [go_sem])
   refine wz_intro (sizesOf1_ok hb1 ow1 (inI_tt hb) (by omega)) ?_
   rintro _ h2 ⟨rfl, rfl⟩
   repeat (first | rw [ko] | rw [kr] | simp -dsimp -implicitDefEqProofs only [go_sem, rq1, wn])
   by_cases hn64 : 64 < nAt l i
   ·repeat (first | rw [ko] | rw [kr] | simp -dsimp -implicitDefEqProofs only [go_sem, hn64])
    exact ⟨le1, _, by rw [bad i hi (by unfold stepOk; rw [decide_eq_false (by omega : ¬ nAt l i ≤ 64), Bool.and_false])], rfl⟩
   repeat (first | rw [ko] | rw [kr] | simp -dsimp -implicitDefEqProofs only [go_sem, rq1, rq3, hn64, hb1])
   have hst : stepOk l i = true := by
    unfold stepOk tokAt
    rw [ha, hb, decide_eq_true (by omega : nAt l i ≤ 64)]; rfl
   refine append_iM (P := Tryz.prog) (D := fun _ => none) (N := hn g .mk) Go.Ai.ty_el25 Go.Ai.ty_zr3 Go.Ai.ty_cl25 (OwnI.keep ow1 (le_up1 (H2.le.refl _))) (by rw [hn_up, hn_push]; omega) (by rw [outs_len]; have : Go.Ai.most = 1099511627776 := rfl; omega) ?_
   intro v4 g4 ow4 nn4 le4 on4 ap4
   simp only [hn_up, hn_push] at nn4 ap4
   have hbox4 : hg g4 (hn g .mk + 1) .mk = some ⟨1, [v]⟩ := (on4 _ (by rw [hn_up, hn_push]; omega) (fun e => hap _ e rfl)).trans hb1
   have oc := ownI_cell ow4
   repeat (first | rw [ko] | rw [kr] | simp -dsimp -implicitDefEqProofs only [go_sem, rq1, hbox4, oc, hoo, wrap_succ hi (by omega)])
   refine nx_keep (m - 1) (by omega) zsm ⟨i + 1, v4, zsm, by omega, by simp -dsimp -implicitDefEqProofs only [go_sem, hoo], ?_, fun c hc => by have := ap4 c hc; omega, le_set (le4 g (Nat.le_refl _) (le_up1 le1)) (by omega), by simp -dsimp -implicitDefEqProofs only [go_sem] <;> omega, fun j hj => ?_⟩
   ·rw [outs]
    exact ownI_frame ow4 (by rw [hn_set]; omega) fun c hc _ => by
     have := ap4 c hc
     rw [hg_set, show (c == hn g .mk + 1) = false by simp; omega]; rfl
   ·by_cases hji : j = i
    ·subst hji; exact hst
    ·exact hpre j (by omega)
  ·repeat (first | rw [ko] | rw [kr] | simp -dsimp -implicitDefEqProofs only [go_sem, rq1, hks, e13, h1, hbox])
   have oc := ownI_cell ow
   have hall : (List.range l.length).all (stepOk l) = true := by
    rw [List.all_eq_true]; intro j hj; exact hpre j (by have := List.mem_range.1 hj; omega)
   rw [hall]
   repeat (first | rw [ko] | rw [kr] | simp -dsimp -implicitDefEqProofs only [go_sem, oc])
   exact ⟨hle, v, rfl, oc.2.2⟩
end Go.Bi
end
section
set_option maxRecDepth 20000
namespace Go.Bi
open Go.Proofs
open Go.Ai (wrap_i64 wrap_u8)
variable {W0 : World} {P : Program}
set_option maxHeartbeats 4000000
theorem rM_take {l : List LMerge} {i : Nat} : (rMergeS l).take i = rMergeS (l.take i) := by simp [rMergeS, List.map_take]
theorem implMergesOk_ok {f : Adr} {l : List LMerge} {g : H2} (hl0 : l.length ≤ 1048576) : PW Tryz.prog W0 120 [.sl f 2 (rMergeS l)] g (fun y => y = .raw (.bool (mergesB l))) := by
 refine PW.scalar ?_
 refine begins [[0], [0], [], [0], [0, 10, 11, 12], [0, 10, 11, 12], [0, 3, 4, 10, 11, 12], [], [0, 10, 11, 12], [0], [6]] Tryz.func120 rfl (rs := [.tmp 2]) rfl rfl ?_
 intro wf
 by_cases h16 : (16 : Int) < (l.length : Int)
 ·repeat (first | rw [ko] | rw [kr] | simp -dsimp -implicitDefEqProofs only [go_sem, h16])
  exact ⟨H2.le.refl _, ⟨_, rfl⟩, by rw [mergesB_len (by omega)]⟩
 repeat (first | rw [ko] | rw [kr] | simp -dsimp -implicitDefEqProofs only [go_sem, rq1, h16])
 refine lz_keep [0, 10, 11] (fun m e h' => ∃ (i : Nat), look e 12 .mk = .raw (.int .i64 (i : Nat)) ∧ m + i = l.length ∧ g.le h' ∧ ∀ j, j < i → dupAt l j = false) l.length ?_ ?_
 ·exact ⟨0, zsm, by omega, H2.le.refl _, fun j hj => by omega⟩
 ·rintro m e h' hks ⟨i, e12, hm, hle, hpre⟩
  simp -dsimp -implicitDefEqProofs only [go_sem, rq1] at hks
  by_cases h1 : (i : Int) < (l.length : Int)
  ·have hi : i < l.length := by omega
   have hi0 : (0 : Int) ≤ (i : Int) := by omega
   have hi1 : (i : Int) ≤ (l.length : Int) := by omega
   repeat (first | rw [ko] | rw [kr] | simp -dsimp -implicitDefEqProofs only [go_sem, rq1, rq2, rq3, hks, e12, h1, hi, hoo])
   refine dq_intro [(0, []), (1, []), (2, []), (3, []), (4, [])] (by kernel_rfl) ?_
   repeat (first | rw [ko] | rw [kr] | simp -dsimp -implicitDefEqProofs only [go_sem, rq1, hoo, hi0, hi1, rM_take, Nat.sub_zero, List.drop_zero])
   refine pw_intro (containsM_ok (F := fun _ _ => undef) (m := l.getD i default) (by rw [List.length_take]; omega)) ?_
   rintro _ n hn' rfl
   have hle2 := le_up (le_push (k := ⟨2, [.raw (.int .i64 (l.getD i default).a), .raw (.int .i64 (l.getD i default).b)]⟩) hle) hn'
   have hdd : decide (l.getD i default ∈ l.take i) = dupAt l i := rfl
   rw [hdd]
   cases hd : dupAt l i
   ·repeat (first | rw [ko] | rw [kr] | simp -dsimp -implicitDefEqProofs only [go_sem, rq1, wrap_succ hi (by omega)])
    refine nx_keep (m - 1) (by omega) zsm ⟨i + 1, zsm, by omega, hle2, fun j hj => ?_⟩
    by_cases hji : j = i
    ·subst hji; exact hd
    ·exact hpre j (by omega)
   ·repeat (first | rw [ko] | rw [kr] | simp -dsimp -implicitDefEqProofs only [go_sem])
    exact ⟨hle2, ⟨_, rfl⟩, by rw [mergesB_bad hi (by rw [hd, Bool.not_true, Bool.and_false])]⟩
  ·repeat (first | rw [ko] | rw [kr] | simp -dsimp -implicitDefEqProofs only [go_sem, rq1, hks, e12, h1])
   refine wz_intro (sizesOf_ok (by omega)) ?_
   rintro _ g2 ⟨l2, v, rfl, hv⟩
   repeat (first | rw [ko] | rw [kr] | simp -dsimp -implicitDefEqProofs only [go_sem, rq1])
   refine ⟨hle.trans l2, ⟨_, rfl⟩, ?_⟩
   have hd : ∀ j, j < l.length → dupAt l j = false := fun j hj => hpre j (by omega)
   congr 2
   unfold mergesB
   rw [decide_eq_true (by omega : l.length ≤ 16), Bool.true_and]
   cases ha : (List.range l.length).all (stepOk l)
   ·symm
    rw [List.all_eq_false] at ha ⊢
    obtain ⟨j, h3, h4⟩ := ha
    refine ⟨j, h3, ?_⟩
    simp only [Bool.not_eq_true] at h4
    rw [h4]; simp
   ·symm
    rw [List.all_eq_true] at ha ⊢
    intro j hj
    rw [ha j hj, hd j (List.mem_range.1 hj)]; rfl
theorem specMergesOk_ok {f : Adr} {l : List LMerge} {g : H2} (hl0 : l.length ≤ 1048576) : PW Tryz.prog W0 85 [.sl f 2 (rMergeS l)] g (fun y => y = .raw (.bool (mergesB l))) := by
  have hT : Go.Ai.intS? Tryz.prog 126 = some 2 := by kernel_rfl
  refine PW.scalar ?_
  refine begins [[0], [0], [], [0], [0, 3], [0, 3, 4], [0, 3, 4], [0, 3, 4], [], [0, 3, 4], [0, 3, 4, 5], [0, 3, 4, 5, 6], [0, 3, 4, 5, 6], [0, 3, 4, 5, 6], [0, 3, 4, 5, 6, 7], [0, 3, 4, 5, 6], [0, 3, 4, 5, 6, 7], [0, 3, 4, 5, 6], [0, 3, 4, 5, 6, 7], [0, 3, 4, 5], [0, 3, 4, 5, 8], [0, 3, 4, 5, 8], [0, 3, 4, 5, 8], [], [0, 3, 4, 5], [], [0, 3, 4, 5], []] Tryz.func85 rfl (rs := [.tmp 2]) rfl rfl ?_
  intro wf
  by_cases h16 : (16 : Int) < (l.length : Int)
  · repeat (first | rw [ko] | rw [kr] | simp -dsimp -implicitDefEqProofs only [go_sem, h16])
    exact ⟨H2.le.refl _, ⟨_, rfl⟩, by rw [mergesB_len (by omega)]⟩
  repeat (first | rw [ko] | rw [kr] | simp -dsimp -implicitDefEqProofs only [go_sem, rq1, rq3, h16])
  refine lz_keep [0] (fun m e h' => ∃ (i : Nat) (v : X), look e 4 .mk = .raw (.int .i64 (i : Nat)) ∧ look e 3 .mk = v ∧ m + i = l.length ∧ g.le h' ∧ OwnI (hn g .mk) h' v (outs l i) ∧ ∀ j, j < i → (stepOk l j && !dupAt l j) = true) l.length ?_ ?_
  · exact ⟨0, _, zsm, by simp -dsimp -implicitDefEqProofs only [go_sem] <;> rfl, by omega, le_push (H2.le.refl _), Own.new (Nat.le_refl _) rfl, fun j hj => by omega⟩
  · rintro m e h' hks ⟨i, v, e4, e3, hm, hle, ow, hpre⟩
    simp -dsimp -implicitDefEqProofs only [go_sem] at hks
    have hst : ∀ j, j < i → stepOk l j = true := fun j hj => by have := hpre j hj; rw [Bool.and_eq_true] at this; exact this.1
    by_cases h1 : (i : Int) < (l.length : Int)
    · have hi : i < l.length := by omega
      have w1 : IntKind.i64.wrap (255 + (i : Int)) = 255 + (i : Int) := by rw [wrap_i64] <;> omega
      have hmi : l.getD i default = mAt l i := rfl
      repeat (first | rw [ko] | rw [kr] | simp -dsimp -implicitDefEqProofs only [go_sem, rq1, rq2, rq3, hks, e4, e3, h1, hi, hoo, w1])
      rw [hmi]
      refine wz_intro l01In_ok ?_
      rintro _ hx ⟨rfl, hxe⟩
      rw [hxe]
      clear hxe hx
      cases ha : inI (mAt l i).a 0 (255 + (i : Int))
      · repeat (first | rw [ko] | rw [kr] | simp -dsimp -implicitDefEqProofs only [go_sem, rq1])
        exact ⟨hle, ⟨_, rfl⟩, by rw [mergesB_bad hi (by unfold stepOk tokAt; rw [ha]; rfl)]⟩
      repeat (first | rw [ko] | rw [kr] | simp -dsimp -implicitDefEqProofs only [go_sem, rq1, rq2, rq3, hi, hoo, w1, hmi])
      refine wz_intro l01In_ok ?_
      rintro _ hx ⟨rfl, hxe⟩
      rw [hxe]
      clear hxe hx
      cases hb : inI (mAt l i).b 0 (255 + (i : Int))
      · repeat (first | rw [ko] | rw [kr] | simp -dsimp -implicitDefEqProofs only [go_sem, rq1])
        exact ⟨hle, ⟨_, rfl⟩, by rw [mergesB_bad hi (by unfold stepOk tokAt; rw [ha, hb]; rfl)]⟩
      repeat (first | rw [ko] | rw [kr] | simp -dsimp -implicitDefEqProofs only [go_sem, rq1])
      have r1 := one_rng hst (inI_tt ha)
      have r2 := one_rng hst (inI_tt hb)
      have hat : ∀ t : Int, 0 ≤ t ∧ t ≤ 255 + (i : Int) → ¬ t < 256 → ∃ (q k : Nat), v = .raw (.slice (some ⟨q, 0, none⟩) i i) ∧ hg h' q .mk = some ⟨1, (outs l i).map cI⟩ ∧ IntKind.i64.wrap (t - 256) = (k : Int) ∧ k < i ∧ latM (outs l i) k = szOne (outs l i) t := fun t ht hn => by
        obtain ⟨k, hk⟩ := Int.eq_ofNat_of_zero_le (a := t - 256) (by omega)
        obtain ⟨_, h | ⟨q, q1, q2, q3, q4⟩⟩ := ow
        · rw [outs_len] at h; omega
        · rw [outs_len] at q1
          refine ⟨q, k, q1, q4, by rw [wrap_i64] <;> omega, by omega, ?_⟩
          unfold szOne
          rw [if_neg hn, hk, Int.toNat_natCast]
      let nk : Nat → Int := fun k => if k = 0 then 0 else if k = 1 then szOne (outs l i) (mAt l i).a else nAt l i
      refine lz_join 2 [0, 3, 4] (fun m e h2 => ∃ k : Nat, look e 6 .mk = .raw (.int .i64 (k : Nat)) ∧ look e 5 .mk = .raw (.int .i64 (nk k)) ∧ m + k = 2 ∧ h2 = h') (fun e h2 => look e 5 .mk = .raw (.int .i64 (nAt l i)) ∧ h2 = h') 2 ?_ ?_ ?_
      · exact ⟨0, zsm, by simp -dsimp -implicitDefEqProofs only [go_sem] <;> rfl, by omega, rfl⟩
      · rintro m2 e2 h2 hks2 ⟨k, e6, e5, hm2, hxe⟩
        simp -dsimp -implicitDefEqProofs only [go_sem, rq1] at hks2
        rw [hxe]
        clear hxe
        by_cases hk2 : (k : Int) < 2
        · have hk3 : k = 0 ∨ k = 1 := by omega
          rcases hk3 with rfl | rfl
          · have z1 : ¬ (0 : Int) = 1 := by omega
            replace hk2 : (0 : Int) < 2 := by omega
            have w2 : IntKind.i64.wrap ((0 : Int) + 1) = 1 := by decide
            have w2' : IntKind.i64.wrap (1 : Int) = 1 := by decide
            by_cases h256 : (mAt l i).a < 256
            · have wa : IntKind.i64.wrap (nk 0 + 1) = nk 1 := by show IntKind.i64.wrap (0 + 1) = szOne _ _; unfold szOne; rw [if_pos h256]; decide
              repeat (first | rw [ko] | rw [kr] | simp -dsimp -implicitDefEqProofs only [go_sem, rq1, rq2, rq3, hks2, e6, e5, hk2, hi, hmi, z1, h256, wa, w2])
              exact nx_keep (m2 - 1) (by omega) zsm ⟨1, (by simp -dsimp -implicitDefEqProofs only [go_sem] <;> rfl), (by simp -dsimp -implicitDefEqProofs only [go_sem, rq1] <;> rfl), by omega, rfl⟩
            · obtain ⟨q, k, rfl, q1, q2, q3, q4⟩ := hat _ (inI_tt ha) h256
              have wa : IntKind.i64.wrap (nk 0 + latM (outs l i) k) = nk 1 := by show IntKind.i64.wrap (0 + _) = szOne _ _; rw [q4, wrap_i64] <;> omega
              have i0 : (0 : Int) ≤ (k : Int) ∧ (k : Int) < (i : Int) := by omega
              have e0 := get_M (l := outs l i) (i := k) (by rw [outs_len]; exact q3)
              repeat (first | rw [ko] | rw [kr] | simp -dsimp -implicitDefEqProofs only [go_sem, rq1, rq2, rq3, hks2, e6, e5, hk2, hi, hmi, z1, h256, q2, q1, i0, e0, wa, w2])
              exact nx_keep (m2 - 1) (by omega) zsm ⟨1, (by simp -dsimp -implicitDefEqProofs only [go_sem] <;> rfl), (by simp -dsimp -implicitDefEqProofs only [go_sem, rq1] <;> rfl), by omega, rfl⟩
          · have z1 : ((1 : Nat) : Int) = 1 := rfl
            have w2 : IntKind.i64.wrap ((1 : Int) + 1) = 2 := by decide
            have w2' : IntKind.i64.wrap (2 : Int) = 2 := by decide
            by_cases h256 : (mAt l i).b < 256
            · have wa : IntKind.i64.wrap (nk 1 + 1) = nk 2 := by
                show IntKind.i64.wrap (szOne _ _ + 1) = szOne _ _ + szOne _ _
                have : szOne (outs l i) (mAt l i).b = 1 := by unfold szOne; rw [if_pos h256]
                rw [this, wrap_i64] <;> omega
              repeat (first | rw [ko] | rw [kr] | simp -dsimp -implicitDefEqProofs only [go_sem, rq1, rq2, rq3, rq6, hks2, e6, e5, hi, hmi, z1, h256, wa, w2])
              exact nx_keep (m2 - 1) (by omega) zsm ⟨2, (by simp -dsimp -implicitDefEqProofs only [go_sem] <;> rfl), (by simp -dsimp -implicitDefEqProofs only [go_sem, rq1] <;> rfl), by omega, rfl⟩
            · obtain ⟨q, k, rfl, q1, q2, q3, q4⟩ := hat _ (inI_tt hb) h256
              have wa : IntKind.i64.wrap (nk 1 + latM (outs l i) k) = nk 2 := by show IntKind.i64.wrap (szOne _ _ + _) = szOne _ _ + szOne _ _; rw [q4, wrap_i64] <;> omega
              have i0 : (0 : Int) ≤ (k : Int) ∧ (k : Int) < (i : Int) := by omega
              have e0 := get_M (l := outs l i) (i := k) (by rw [outs_len]; exact q3)
              repeat (first | rw [ko] | rw [kr] | simp -dsimp -implicitDefEqProofs only [go_sem, rq1, rq2, rq3, rq6, hks2, e6, e5, hi, hmi, z1, h256, q2, q1, i0, e0, wa, w2])
              exact nx_keep (m2 - 1) (by omega) zsm ⟨2, (by simp -dsimp -implicitDefEqProofs only [go_sem] <;> rfl), (by simp -dsimp -implicitDefEqProofs only [go_sem, rq1] <;> rfl), by omega, rfl⟩
        · have : k = 2 := by omega
          subst this
          repeat (first | rw [ko] | rw [kr] | simp -dsimp -implicitDefEqProofs only [go_sem, hks2, e6, e5, hk2])
          exact out_keep zsm ⟨by simp -dsimp -implicitDefEqProofs only [go_sem, rq1] <;> rfl, rfl⟩
      · rintro e2 h2 hks2 ⟨e5, hxe⟩
        simp -dsimp -implicitDefEqProofs only [go_sem, rq1] at hks2
        rw [hxe]
        clear hxe
        repeat (first | rw [ko] | rw [kr] | simp -dsimp -implicitDefEqProofs only [go_sem, hks2, e5])
        refine lz_join 4 [0, 3, 4, 5] (fun m e h2 => ∃ k : Nat, look e 8 .mk = .raw (.int .i64 (k : Nat)) ∧ m + k = i ∧ h2 = h' ∧ ∀ j, j < k → mAt l j ≠ mAt l i) (fun e h2 => h2 = h' ∧ dupAt l i = false) i ?_ ?_ ?_
        · exact ⟨0, zsm, by omega, rfl, fun j hj => by omega⟩
        · rintro m3 e3' h3 hks3 ⟨k, e8, hm3, hxe, hne⟩
          simp -dsimp -implicitDefEqProofs only [go_sem, rq1] at hks3
          rw [hxe]
          clear hxe
          by_cases hk : (k : Int) < (i : Int)
          · have hkl : k < l.length := by omega
            have hE := eq_merge (x := l.getD k default) (y := l.getD i default) hT
            repeat (first | rw [ko] | rw [kr] | simp -dsimp -implicitDefEqProofs only [go_sem, rq1, hks3, e8, hk])
            refine dq_intro [(0, []), (1, []), (2, []), (3, []), (4, []), (5, []), (6, []), (7, []), (8, [])] (by kernel_rfl) ?_
            by_cases heq : l.getD k default = l.getD i default
            · repeat (first | rw [ko] | rw [kr] | simp -dsimp -implicitDefEqProofs only [go_sem, rq1, rq2, rq3, hkl, hi, hoo, hE, decide_eq_true heq])
              refine ⟨hle, ⟨_, rfl⟩, by rw [mergesB_bad hi]; rw [show dupAt l i = true from decide_eq_true ?_, Bool.not_true, Bool.and_false]; rw [mAt, ← heq, List.mem_take_iff_getElem]; exact ⟨k, by omega, by rw [List.getD_eq_getElem?_getD, List.getElem?_eq_getElem hkl]; rfl⟩⟩
            · repeat (first | rw [ko] | rw [kr] | simp -dsimp -implicitDefEqProofs only [go_sem, rq1, rq2, rq3, hkl, hi, hoo, hE, decide_eq_false heq, wrap_succ hkl (by omega)])
              refine nx_keep (m3 - 1) (by omega) zsm ⟨k + 1, zsm, by omega, rfl, fun j hj => ?_⟩
              by_cases hjk : j = k
              · subst hjk; exact heq
              · exact hne j (by omega)
          · repeat (first | rw [ko] | rw [kr] | simp -dsimp -implicitDefEqProofs only [go_sem, rq1, hks3, e8, hk])
            refine out_keep zsm ⟨rfl, decide_eq_false fun hm => ?_⟩
            rw [List.mem_take_iff_getElem] at hm
            obtain ⟨j, hj, e⟩ := hm
            refine hne j (by omega) ?_
            rw [← e, mAt, List.getD_eq_getElem?_getD, List.getElem?_eq_getElem (by omega)]; rfl
        · rintro e4' h4 hks4 ⟨hxe, hdup⟩
          simp -dsimp -implicitDefEqProofs only [go_sem, rq1] at hks4
          rw [hxe]
          clear hxe
          by_cases h64 : 64 < nAt l i
          · repeat (first | rw [ko] | rw [kr] | simp -dsimp -implicitDefEqProofs only [go_sem, hks4, h64])
            exact ⟨hle, ⟨_, rfl⟩, by rw [mergesB_bad hi (by unfold stepOk; rw [decide_eq_false (by omega : ¬ nAt l i ≤ 64), Bool.and_false]; rfl)]⟩
          have hsi : stepOk l i = true := by
            unfold stepOk tokAt
            rw [ha, hb, decide_eq_true (by omega : nAt l i ≤ 64)]; rfl
          repeat (first | rw [ko] | rw [kr] | simp -dsimp -implicitDefEqProofs only [go_sem, rq1, rq3, hks4, h64])
          refine append_iM (P := Tryz.prog) (D := fun _ => none) (N := hn g .mk) Go.Ai.ty_el25 Go.Ai.ty_zr3 Go.Ai.ty_cl25 (OwnI.keep ow (le_up1 (H2.le.refl _))) (by rw [hn_up]; have := hle.1; omega) (by rw [outs_len]; have : Go.Ai.most = 1099511627776 := rfl; omega) ?_
          intro v5 g5 ow5 nn5 le5 on5 ap5
          repeat (first | rw [ko] | rw [kr] | simp -dsimp -implicitDefEqProofs only [go_sem, rq1, wrap_succ hi (by omega)])
          refine nx_keep (m - 1) (by omega) zsm ⟨i + 1, v5, zsm, zsm, by omega, le5 g (Nat.le_refl _) (le_up1 hle), ow5, fun j hj => ?_⟩
          by_cases hji : j = i
          · subst hji; rw [hsi, hdup]; rfl
          · exact hpre j (by omega)
    · repeat (first | rw [ko] | rw [kr] | simp -dsimp -implicitDefEqProofs only [go_sem, rq1, hks, e4, e3, h1])
      exact ⟨hle, ⟨_, rfl⟩, by rw [mergesB_ok (by omega) fun j hj => hpre j (by omega)]⟩
end Go.Bi
end
section
set_option maxRecDepth 20000
namespace Go.Bi
open Go.Proofs
open Go.Ai (wrap_i64 wrap_u8 Heap)
variable {W0 : World} {P : Program}
set_option maxHeartbeats 2000000
def pc (l : List LMerge) : Nat → Int → ByteArray
 | 0, t => byteT t
 | n + 1, t => if t < 256 then byteT t else pc l n (mAt l (t - 256).toNat).a ++ pc l n (mAt l (t - 256).toNat).b
def rightM (l : List LMerge) : Prop := ∀ i, i < l.length → tokAt l i = true ∧ nAt l i ≤ 64
theorem right_of {l : List LMerge} (h : mergesB l = true) : l.length ≤ 16 ∧ rightM l := by
 unfold mergesB at h
 simp only [Bool.and_eq_true, decide_eq_true_eq, List.all_eq_true, List.mem_range] at h
 refine ⟨h.1, fun i hi => ?_⟩
 have := (h.2 i hi).1
 simp only [stepOk, Bool.and_eq_true, decide_eq_true_eq] at this
 exact this
theorem tok_rng {l : List LMerge} (h : rightM l) {i : Nat} (hi : i < l.length) : (0 ≤ (mAt l i).a ∧ (mAt l i).a ≤ 255 + (i : Int)) ∧ (0 ≤ (mAt l i).b ∧ (mAt l i).b ≤ 255 + (i : Int)) := by
 have := (h i hi).1
 simp only [tokAt, Bool.and_eq_true] at this
 exact ⟨inI_tt this.1, inI_tt this.2⟩
theorem outs_at {l : List LMerge} {k : Nat} : ∀ {n : Nat}, k < n → latM (outs l n) k = nAt l k
 | 0, h => by omega
 | n + 1, h => by
  have e : outs l (n + 1) = outs l n ++ [nAt l n] := rfl
  rw [e]
  unfold latM
  by_cases hk : k < n
  ·rw [List.getD_eq_getElem?_getD, List.getElem?_append_left (by rw [outs_len]; exact hk), ← List.getD_eq_getElem?_getD]
   exact outs_at hk
  ·obtain rfl : k = n := by omega
   rw [List.getD_eq_getElem?_getD, List.getElem?_append_right (by rw [outs_len]; exact Nat.le_refl _), outs_len, Nat.sub_self]; rfl
theorem one_at {l : List LMerge} {n i : Nat} {t : Int} (h : t ≤ 255 + (i : Int)) (hi : i ≤ n) : szOne (outs l n) t = szOne (outs l i) t := by
 unfold szOne
 split
 ·rfl
 ·rw [outs_at (by omega), outs_at (by omega)]
theorem pc_size {l : List LMerge} (h : rightM l) : ∀ {n : Nat} {t : Int}, n ≤ l.length → 0 ≤ t → t < 256 + (n : Int) → ((pc l n t).size : Int) = szOne (outs l n) t
 | 0, t, hn, h0, h1 => by
  rw [szOne, if_pos (by omega)]; rfl
 | n + 1, t, hn, h0, h1 => by
  by_cases ht : t < 256
  ·rw [pc, if_pos ht, szOne, if_pos ht]; rfl
  ·obtain ⟨i, hi⟩ : ∃ i : Nat, t = 256 + (i : Int) := ⟨(t - 256).toNat, by omega⟩
   have hi2 : (t - 256).toNat = i := by omega
   obtain ⟨⟨a0, a1⟩, b0, b1⟩ := tok_rng h (show i < l.length by omega)
   rw [pc, if_neg ht, hi2, ByteArray.size_append, szOne, if_neg ht, hi2, outs_at (by omega)]
   have e1 := pc_size h (n := n) (by omega) a0 (by omega)
   have e2 := pc_size h (n := n) (by omega) b0 (by omega)
   rw [one_at a1 (by omega)] at e1
   rw [one_at b1 (by omega)] at e2
   unfold nAt
   omega
theorem pc_64 {l : List LMerge} (h : rightM l) {n : Nat} {t : Int} (hn : n ≤ l.length) (h0 : 0 ≤ t) (h1 : t < 256 + (n : Int)) : (pc l n t).size ≤ 64 := by
 have := pc_size h hn h0 h1
 unfold szOne at this
 split at this
 ·omega
 ·rw [outs_at (by omega)] at this
  have := (h (t - 256).toNat (by omega)).2
  omega
theorem implPiece_ok {l : List LMerge} (hr : rightM l) (hl : l.length ≤ 16) : ∀ {n : Nat} {t : Int} {f : Adr} {g : H2}, n ≤ l.length → 0 ≤ t → t < 256 + (n : Int) → PW Tryz.prog W0 108 [.sl f 2 (rMergeS l), .raw (.int .i64 t)] g (fun y => y = .raw (.string (pc l n t)))
 | n, t, f, g, hn, h0, h1 => by
  refine PW.scalar ?_
  refine begins [[0, 1], [0, 1], [1], [0, 1], [0, 5]] Tryz.func108 rfl (rs := [.tmp 4]) rfl rfl ?_
  intro wf
  repeat (first | rw [ko] | rw [kr] | simp -dsimp -implicitDefEqProofs only [go_sem])
  refine gz_dec (fun h2 => ?_) (fun h2 => ?_)
  ·repeat (first | rw [ko] | rw [kr] | simp -dsimp -implicitDefEqProofs only [go_sem, rq1, rq3])
   have e : pc l n t = byteT t := by cases n with
    | zero => rfl
    | succ n => rw [pc, if_pos h2]
   exact ⟨le_up (H2.le.refl _) (Nat.le_succ _), ⟨_, rfl⟩, by rw [e, wrap_u8]; rfl⟩
  ·obtain ⟨i, hi⟩ : ∃ i : Nat, t = 256 + (i : Int) := ⟨(t - 256).toNat, by omega⟩
   have hi2 : (t - 256).toNat = i := by omega
   cases n with
   | zero => omega
   | succ n =>
   obtain ⟨⟨a0, a1⟩, b0, b1⟩ := tok_rng hr (show i < l.length by omega)
   unfold mAt at a0 a1 b0 b1
   have w1 : IntKind.i64.wrap (t - 256) = (i : Int) := by rw [wrap_i64] <;> omega
   have h3 : i < l.length := by omega
   repeat (first | rw [ko] | rw [kr] | simp -dsimp -implicitDefEqProofs only [go_sem, rq1, rq2, rq3, w1, h3, hoo])
   refine dq_intro [(0, []), (1, []), (2, []), (4, []), (5, []), (6, []), (3, [6]), (7, []), (8, []), (9, [])] (by kernel_rfl) ?_
   repeat (first | rw [ko] | rw [kr] | simp -dsimp -implicitDefEqProofs only [go_sem, rq1, hoo])
   refine pw_intro (implPiece_ok hr hl (n := n) (by omega) a0 (by omega)) ?_
   rintro _ n1 hn1 rfl
   simp only [hn_push] at hn1
   rw [kq]
   refine ⟨by simp -dsimp -implicitDefEqProofs only [go_sem, hoo], ?_⟩
   repeat (first | rw [ko] | rw [kr] | simp -dsimp -implicitDefEqProofs only [go_sem, hoo])
   refine pw_intro (implPiece_ok hr hl (n := n) (by omega) b0 (by omega)) ?_
   rintro _ n2 hn2 rfl
   simp only [hn_up] at hn2
   have s1 := pc_64 hr (n := n) (by omega) a0 (by omega)
   have s2 := pc_64 hr (n := n) (by omega) b0 (by omega)
   have a2 : (((pc l n (l.getD i default).a).size + (pc l n (l.getD i default).b).size : Nat) : Int) ≤ 9223372036854775807 := by omega
   rw [kq]
   refine ⟨zsm, ?_⟩
   repeat (first | rw [ko] | rw [kr] | simp -dsimp -implicitDefEqProofs only [go_sem, a2, hoo])
   exact ⟨le_up (le_up (le_push (H2.le.refl _)) (by rw [hn_push]; omega)) (by rw [hn_up]; omega), ⟨_, rfl⟩, by rw [pc, if_neg h2, hi2]; rfl⟩
theorem specPiece_ok {l : List LMerge} (hr : rightM l) (hl : l.length ≤ 16) : ∀ {n : Nat} {t : Int} {f : Adr} {g : H2}, n ≤ l.length → 0 ≤ t → t < 256 + (n : Int) → PW Tryz.prog W0 100 [.sl f 2 (rMergeS l), .raw (.int .i64 t)] g (fun y => y = .raw (.string (pc l n t)))
 | n, t, f, g, hn, h0, h1 => by
  refine PW.scalar ?_
  refine begins [[0, 1], [0, 1], [1], [0, 1]] Tryz.func100 rfl (rs := [.tmp 4]) rfl rfl ?_
  intro wf
  repeat (first | rw [ko] | rw [kr] | simp -dsimp -implicitDefEqProofs only [go_sem])
  refine gz_dec (fun h2 => ?_) (fun h2 => ?_)
  ·repeat (first | rw [ko] | rw [kr] | simp -dsimp -implicitDefEqProofs only [go_sem, rq1, rq3])
   have e : pc l n t = byteT t := by cases n with
    | zero => rfl
    | succ n => rw [pc, if_pos h2]
   exact ⟨le_up (H2.le.refl _) (Nat.le_succ _), ⟨_, rfl⟩, by rw [e, wrap_u8]; rfl⟩
  ·obtain ⟨i, hi⟩ : ∃ i : Nat, t = 256 + (i : Int) := ⟨(t - 256).toNat, by omega⟩
   have hi2 : (t - 256).toNat = i := by omega
   cases n with
   | zero => omega
   | succ n =>
   obtain ⟨⟨a0, a1⟩, b0, b1⟩ := tok_rng hr (show i < l.length by omega)
   unfold mAt at a0 a1 b0 b1
   have w1 : IntKind.i64.wrap (t - 256) = (i : Int) := by rw [wrap_i64] <;> omega
   have h3 : i < l.length := by omega
   repeat (first | rw [ko] | rw [kr] | simp -dsimp -implicitDefEqProofs only [go_sem, rq1, hoo])
   refine dq_intro [(0, []), (1, []), (2, []), (3, []), (4, []), (5, []), (6, []), (8, []), (9, []), (10, []), (11, []), (12, []), (13, []), (14, []), (7, [14]), (15, []), (16, []), (17, [])] (by kernel_rfl) ?_
   repeat (first | rw [ko] | rw [kr] | simp -dsimp -implicitDefEqProofs only [go_sem, rq1, rq2, rq3, w1, h3, hoo])
   refine pw_intro (specPiece_ok hr hl (n := n) (by omega) a0 (by omega)) ?_
   rintro _ n1 hn1 rfl
   repeat (first | rw [ko] | rw [kr] | simp -dsimp -implicitDefEqProofs only [go_sem, rq1, hoo])
   refine pw_intro (specPiece_ok hr hl (n := n) (by omega) b0 (by omega)) ?_
   rintro _ n2 hn2 rfl
   simp only [hn_up] at hn2
   have s1 := pc_64 hr (n := n) (by omega) a0 (by omega)
   have s2 := pc_64 hr (n := n) (by omega) b0 (by omega)
   have a2 : (((pc l n (l.getD i default).a).size + (pc l n (l.getD i default).b).size : Nat) : Int) ≤ 9223372036854775807 := by omega
   repeat (first | rw [ko] | rw [kr] | simp -dsimp -implicitDefEqProofs only [go_sem, rq1, a2, hoo])
   exact ⟨le_up (le_up (H2.le.refl _) hn1) (by rw [hn_up]; omega), ⟨_, rfl⟩, by rw [pc, if_neg h2, hi2]; rfl⟩
end Go.Bi
end
section
set_option maxRecDepth 20000
namespace Go.Bi
open Go.Proofs
open Go.Ai (wrap_i64 wrap_u8 Heap)
variable {W0 : World} {P : Program}
set_option maxHeartbeats 2000000
def lsb (s : ByteArray) : List UInt8 := s.data.toList
def PlainK (x : X) : Prop := (∃ v, x = .raw v) ∨ ∃ vs : List Value, x = .tp (vs.map .raw)
theorem PlainK.fz {p q : Nat → Prop} {g : H2} {x : X} (h : PlainK x) : Fz p q g x x := by
 rcases h with ⟨v, rfl⟩ | ⟨vs, rfl⟩
 ·exact .raw
 ·refine .tp rfl fun i hi hi' => ?_
  simp only [List.getElem_map]; exact .raw
theorem PW.plainK {f : FuncId} {xs : List X} {g : H2} {Q : X → Prop} (c : WC2 P W0 f xs g fun x g' => g.le g' ∧ PlainK x ∧ Q x) : PW P W0 f xs g Q :=
 (PW.of (q := fun _ => True) (Q := Q) (c.mono fun x g' ⟨h1, h2, h3⟩ => ⟨h1, x, h2.fz, h3⟩)).mono fun y h => h.1
def tokB (l : List LMerge) (ts : List Int) : Bool := mergesB l && (decide ((ts.length : Int) ≤ 200) && allI ts 0 (255 + (l.length : Int)))
def decS (l : List LMerge) (ts : List Int) : ByteArray := ts.foldl (fun s t => s ++ pc l l.length t) ⟨#[]⟩
def decR (l : List LMerge) (ts : List Int) : X := if tokB l ts = true then .tp [.raw (.string (decS l ts)), .raw (.bool true)] else .tp [.raw (.string ⟨#[]⟩), .raw (.bool false)]
theorem cv_fromS {s d e : TypeId} {h : H2} {b : ByteArray} (hs : Go.Ai.cls? P s = some .str) (hd : Go.Ai.cls? P d = some .sl) (he : Go.Ai.elt? P d = some (e, 1, 1)) (hc : Go.Ai.cls? P e = some (.int .u8)) (hb : b.size ≤ 1048576) :
  convz P h s d (.raw (.string b)) .mk = some (.raw (.slice (some ⟨hn h .mk, 0, none⟩) b.size b.size), h.push ⟨1, (lsb b).map cB⟩) := by
 simp only [convz, convX, hs, hd, he, hc, if_pos hb]; rfl
theorem allok_cB : ∀ {bs : List UInt8}, (bs.map cB).all okX = true
 | [] => rfl
 | b :: bs => by rw [List.map_cons, List.all_cons, allok_cB]; rfl
theorem implTokens_ok {f f' : Adr} {l : List LMerge} {ts : List Int} {g : H2} (hl : l.length ≤ 1048576) (ht : ts.length ≤ 1048576) : PW Tryz.prog W0 107 [.sl f 2 (rMergeS l), .sl f' 1 (ints ts), .raw (.int .i64 200)] g (fun y => y = .raw (.bool (tokB l ts))) := by
 refine PW.scalar ?_
 refine begins [[0, 1, 2], [0, 1, 2]] Tryz.func107 rfl (rs := [.tmp 6]) rfl rfl ?_
 intro wf
 repeat (first | rw [ko] | rw [kr] | simp -dsimp -implicitDefEqProofs only [go_sem, rq1])
 refine pw_intro (implMergesOk_ok hl) ?_
 rintro _ n1 hn1 rfl
 have w1 : IntKind.i64.wrap (255 + (l.length : Int)) = 255 + (l.length : Int) := by rw [wrap_i64] <;> omega
 cases h1 : mergesB l
 ·repeat (first | rw [ko] | rw [kr] | simp -dsimp -implicitDefEqProofs only [go_sem, rq1])
  exact ⟨le_up (H2.le.refl _) hn1, ⟨_, rfl⟩, by rw [tokB, h1]; rfl⟩
 by_cases h2 : (ts.length : Int) ≤ 200
 ·repeat (first | rw [ko] | rw [kr] | simp -dsimp -implicitDefEqProofs only [go_sem, rq1, h2, w1])
  refine pw_intro (allIn_ok (by omega)) ?_
  rintro _ n2 hn2 rfl
  rw [hn_up] at hn2
  repeat (first | rw [ko] | rw [kr] | simp -dsimp -implicitDefEqProofs only [go_sem, rq1])
  exact ⟨le_up (le_up (H2.le.refl _) hn1) (by rw [hn_up]; exact hn2), ⟨_, rfl⟩, by rw [tokB, h1]; simp [h2]⟩
 ·repeat (first | rw [ko] | rw [kr] | simp -dsimp -implicitDefEqProofs only [go_sem, rq1, h2])
  exact ⟨le_up (H2.le.refl _) hn1, ⟨_, rfl⟩, by rw [tokB, h1]; simp [h2]⟩
theorem l07Token_ok {f : Adr} {l : List LMerge} {t : Int} {g : H2} (hl : l.length ≤ 1048576) : PW Tryz.prog W0 117 [.sl f 2 (rMergeS l), .raw (.int .i64 t)] g (fun y => y = .raw (.bool (inI t 0 (255 + (l.length : Int))))) := by
 refine PW.scalar ?_
 refine begins [[0, 1], [0, 1]] Tryz.func117 rfl (rs := [.tmp 4]) rfl rfl ?_
 intro wf
 have w1 : IntKind.i64.wrap (255 + (l.length : Int)) = 255 + (l.length : Int) := by rw [wrap_i64] <;> omega
 repeat (first | rw [ko] | rw [kr] | simp -dsimp -implicitDefEqProofs only [go_sem, rq1, w1])
 refine wz_intro l01In_ok ?_
 rintro _ h' ⟨rfl, rfl⟩
 repeat (first | rw [ko] | rw [kr] | simp -dsimp -implicitDefEqProofs only [go_sem])
 exact ⟨H2.le.refl _, ⟨_, rfl⟩, rfl⟩
theorem specTokens_ok {f f' : Adr} {l : List LMerge} {ts : List Int} {g : H2} (hl : l.length ≤ 1048576) (ht : ts.length ≤ 1048576) : PW Tryz.prog W0 99 [.sl f 2 (rMergeS l), .sl f' 1 (ints ts)] g (fun y => y = .raw (.bool (tokB l ts))) := by
 refine PW.scalar ?_
 refine begins [[0, 1], [0, 1], [], [0, 1], [0, 1, 5], [0, 1, 5], [0, 1, 5], [], []] Tryz.func99 rfl (rs := [.tmp 4]) rfl rfl ?_
 intro wf
 repeat (first | rw [ko] | rw [kr] | simp -dsimp -implicitDefEqProofs only [go_sem])
 refine pw_intro (specMergesOk_ok hl) ?_
 rintro _ n1 hn1 rfl
 cases h1 : mergesB l
 ·repeat (first | rw [ko] | rw [kr] | simp -dsimp -implicitDefEqProofs only [go_sem])
  exact ⟨le_up (H2.le.refl _) hn1, ⟨_, rfl⟩, by rw [tokB, h1]; rfl⟩
 by_cases h2 : (ts.length : Int) > 200
 ·repeat (first | rw [ko] | rw [kr] | simp -dsimp -implicitDefEqProofs only [go_sem, rq1, h2])
  exact ⟨le_up (H2.le.refl _) hn1, ⟨_, rfl⟩, by rw [tokB, h1]; simp; intro h; omega⟩
 repeat (first | rw [ko] | rw [kr] | simp -dsimp -implicitDefEqProofs only [go_sem, rq1, h2])
 refine lz_keep [0, 1] (fun m e h' => ∃ (i n : Nat), h' = g.up n ∧ hn g .mk ≤ n ∧ look e 5 .mk = .raw (.int .i64 (i : Nat)) ∧ m + i = ts.length ∧ ∀ j, j < i → inI (ts.getD j default) 0 (255 + (l.length : Int)) = true) ts.length ?_ ?_
 ·exact ⟨0, n1, rfl, hn1, zsm, by omega, fun j hj => by omega⟩
 ·rintro m e h' hks ⟨i, n, rfl, hn2, e5, hm, hpre⟩
  simp -dsimp -implicitDefEqProofs only [go_sem, rq1] at hks
  by_cases h3 : (i : Int) < (ts.length : Int)
  ·have h4 : i < ts.length := by omega
   repeat (first | rw [ko] | rw [kr] | simp -dsimp -implicitDefEqProofs only [go_sem, rq1, hks, e5, h3, h4])
   refine pw_intro (l07Token_ok hl) ?_
   rintro _ n3 hn3 rfl
   rw [hn_up] at hn3
   have w1 := zwrs i (by omega)
   cases h5 : inI (ts.getD i default) 0 (255 + (l.length : Int))
   ·repeat (first | rw [ko] | rw [kr] | simp -dsimp -implicitDefEqProofs only [go_sem])
    exact ⟨le_up (le_up (H2.le.refl _) hn2) (by rw [hn_up]; omega), ⟨_, rfl⟩, by rw [tokB, h1, allI, all_none h4 h5]; simp⟩
   ·repeat (first | rw [ko] | rw [kr] | simp -dsimp -implicitDefEqProofs only [go_sem, rq1, w1])
    refine nx_keep (m - 1) (by omega) zsm ⟨i + 1, n3, rfl, by omega, zsm, by omega, fun j hj => ?_⟩
    by_cases hji : j = i
    ·subst hji; exact h5
    ·exact hpre j (by omega)
  ·repeat (first | rw [ko] | rw [kr] | simp -dsimp -implicitDefEqProofs only [go_sem, rq1, hks, e5, h3])
   exact ⟨le_up (H2.le.refl _) (by omega), ⟨_, rfl⟩, by rw [tokB, h1, allI, all_getD fun j hj => hpre j (by omega)]; simp; omega⟩
theorem decS_take {l : List LMerge} {ts : List Int} {k : Nat} (hk : k < ts.length) : decS l (ts.take (k + 1)) = decS l (ts.take k) ++ pc l l.length (ts.getD k default) := by
 unfold decS
 rw [List.take_succ_eq_append_getElem hk, List.foldl_append, List.getD_eq_getElem?_getD, List.getElem?_eq_getElem hk]; rfl
theorem decS_size {l : List LMerge} (hr : rightM l) : ∀ {ts : List Int}, (∀ t ∈ ts, 0 ≤ t ∧ t < 256 + (l.length : Int)) → (decS l ts).size ≤ 64 * ts.length := by
 intro ts
 have key : ∀ {ts : List Int} {b : ByteArray}, (∀ t ∈ ts, 0 ≤ t ∧ t < 256 + (l.length : Int)) → (ts.foldl (fun s t => s ++ pc l l.length t) b).size ≤ b.size + 64 * ts.length := by
  intro ts
  induction ts with
  | nil => intro b _; simp
  | cons t ts ih =>
   intro b h
   have h1 := h t (by simp)
   have h2 := pc_64 hr (n := l.length) (Nat.le_refl _) h1.1 h1.2
   have h3 := ih (b := b ++ pc l l.length t) fun u hu => h u (by simp [hu])
   rw [List.foldl_cons, List.length_cons]
   rw [ByteArray.size_append] at h3
   omega
 intro h
 have := key (b := ⟨#[]⟩) h
 have e : (ByteArray.mk #[]).size = 0 := rfl
 unfold decS
 omega
theorem tok_facts {l : List LMerge} {ts : List Int} (h : tokB l ts = true) : (l.length ≤ 16 ∧ rightM l) ∧ ts.length ≤ 200 ∧ ∀ t ∈ ts, 0 ≤ t ∧ t < 256 + (l.length : Int) := by
 unfold tokB at h
 simp only [Bool.and_eq_true, decide_eq_true_eq, allI, List.all_eq_true] at h
 exact ⟨right_of h.1, by omega, fun t ht => by have := inI_tt (h.2.2 t ht); omega⟩
theorem getD_memI {ts : List Int} {i : Nat} (h : i < ts.length) : ts.getD i default ∈ ts := by
 rw [List.getD_eq_getElem?_getD, List.getElem?_eq_getElem h]; exact List.getElem_mem h
theorem implDecode_ok {f f' : Adr} {l : List LMerge} {ts : List Int} {g : H2} (hl : l.length ≤ 1048576) (ht : ts.length ≤ 1048576) : PW Tryz.prog W0 74 [.sl f 2 (rMergeS l), .sl f' 1 (ints ts)] g (fun y => y = decR l ts) := by
 refine PW.plainK ?_
 refine begins [[0, 1], [0, 1], [], [0, 1], [0, 1, 6], [0, 6, 13, 14, 15], [0, 6, 13, 14, 15], [0, 6, 8, 13, 14, 15], [0, 6, 13, 14, 15], [6]] Tryz.func74 rfl (rs := [.tmp 4, .tmp 5]) rfl rfl ?_
 intro wf
 repeat (first | rw [ko] | rw [kr] | simp -dsimp -implicitDefEqProofs only [go_sem, rq1])
 refine pw_intro (implTokens_ok hl ht) ?_
 rintro _ n1 hn1 rfl
 cases htk : tokB l ts
 ·repeat (first | rw [ko] | rw [kr] | simp -dsimp -implicitDefEqProofs only [go_sem])
  exact ⟨le_up (H2.le.refl _) hn1, .inr ⟨[_, _], rfl⟩, by rw [decR, htk]; rfl⟩
 obtain ⟨⟨l16, hr⟩, h200, hts⟩ := tok_facts htk
 repeat (first | rw [ko] | rw [kr] | simp -dsimp -implicitDefEqProofs only [go_sem, rq1])
 refine lz_keep [0, 13, 14] (fun m e h' => ∃ (i n : Nat), h' = g.up n ∧ hn g .mk ≤ n ∧ look e 15 .mk = .raw (.int .i64 (i : Nat)) ∧ look e 6 .mk = .raw (.string (decS l (ts.take i))) ∧ m + i = ts.length) ts.length ?_ ?_
 ·exact ⟨0, n1, rfl, hn1, zsm, by simp -dsimp -implicitDefEqProofs only [go_sem, rq1] <;> rfl, by omega⟩
 ·rintro m e h' hks ⟨i, n, rfl, hn2, e15, e6, hm⟩
  simp -dsimp -implicitDefEqProofs only [go_sem, rq1] at hks
  by_cases h3 : (i : Int) < (ts.length : Int)
  ·have h4 : i < ts.length := by omega
   have h5 := hts _ (getD_memI h4)
   repeat (first | rw [ko] | rw [kr] | simp -dsimp -implicitDefEqProofs only [go_sem, rq1, hks, e15, e6, h3, h4])
   refine pw_intro (implPiece_ok hr l16 (n := l.length) (Nat.le_refl _) h5.1 h5.2) ?_
   rintro _ n3 hn3 rfl
   rw [hn_up] at hn3
   have w1 := zwrs i (by omega)
   have s1 := decS_size hr (ts := ts.take i) fun t ht => hts t (List.mem_of_mem_take ht)
   have s2 := pc_64 hr (n := l.length) (Nat.le_refl _) h5.1 h5.2
   rw [List.length_take] at s1
   have a1 : (((decS l (ts.take i)).size + (pc l l.length (ts.getD i default)).size : Nat) : Int) ≤ 9223372036854775807 := by omega
   repeat (first | rw [ko] | rw [kr] | simp -dsimp -implicitDefEqProofs only [go_sem, rq1, w1, a1])
   exact nx_keep (m - 1) (by omega) zsm ⟨i + 1, n3, rfl, by omega, zsm, by simp -dsimp -implicitDefEqProofs only [go_sem, rq1, decS_take h4], by omega⟩
  ·obtain rfl : i = ts.length := by omega
   rw [List.take_length] at e6
   repeat (first | rw [ko] | rw [kr] | simp -dsimp -implicitDefEqProofs only [go_sem, rq1, hks, e15, e6, h3])
   exact ⟨le_up (H2.le.refl _) hn2, .inr ⟨[_, _], rfl⟩, by rw [decR, htk]; rfl⟩
theorem specDecode_ok {f f' : Adr} {l : List LMerge} {ts : List Int} {g : H2} (hl : l.length ≤ 1048576) (ht : ts.length ≤ 1048576) : PW Tryz.prog W0 66 [.sl f 2 (rMergeS l), .sl f' 1 (ints ts)] g (fun y => y = decR l ts) := by
 refine PW.plainK ?_
 refine begins [[0, 1], [0, 1], [], [0, 1], [0, 1, 6], [0, 1, 6, 7], [0, 1, 6, 7], [0, 1, 6, 7], [6]] Tryz.func66 rfl (rs := [.tmp 4, .tmp 5]) rfl rfl ?_
 intro wf
 repeat (first | rw [ko] | rw [kr] | simp -dsimp -implicitDefEqProofs only [go_sem, rq1])
 refine pw_intro (specTokens_ok hl ht) ?_
 rintro _ n1 hn1 rfl
 cases htk : tokB l ts
 ·repeat (first | rw [ko] | rw [kr] | simp -dsimp -implicitDefEqProofs only [go_sem])
  exact ⟨le_up (H2.le.refl _) hn1, .inr ⟨[_, _], rfl⟩, by rw [decR, htk]; rfl⟩
 obtain ⟨⟨l16, hr⟩, h200, hts⟩ := tok_facts htk
 repeat (first | rw [ko] | rw [kr] | simp -dsimp -implicitDefEqProofs only [go_sem, rq1, rq3])
 refine lz_keep [0, 1] (fun m e h' => ∃ (i : Nat) (v : X), g.le h' ∧ look e 7 .mk = .raw (.int .i64 (i : Nat)) ∧ look e 6 .mk = v ∧ OwnB (hn g .mk) h' v (lsb (decS l (ts.take i))) ∧ m + i = ts.length) ts.length ?_ ?_
 ·exact ⟨0, _, le_push (le_up (H2.le.refl _) hn1), zsm, by simp -dsimp -implicitDefEqProofs only [go_sem] <;> rfl, Own.new (by rw [hn_up]; exact hn1) rfl, by omega⟩
 ·rintro m e h' hks ⟨i, v, lg, e7, e6, ov, hm⟩
  simp -dsimp -implicitDefEqProofs only [go_sem, rq1] at hks
  by_cases h3 : (i : Int) < (ts.length : Int)
  ·have h4 : i < ts.length := by omega
   have h5 := hts _ (getD_memI h4)
   repeat (first | rw [ko] | rw [kr] | simp -dsimp -implicitDefEqProofs only [go_sem, rq1, hks, e7, e6, h3, h4])
   refine pw_intro (specPiece_ok hr l16 (n := l.length) (Nat.le_refl _) h5.1 h5.2) ?_
   rintro _ n3 hn3 rfl
   have w1 := zwrs i (by omega)
   have s1 := decS_size hr (ts := ts.take i) fun t ht => hts t (List.mem_of_mem_take ht)
   have s2 := pc_64 hr (n := l.length) (Nat.le_refl _) h5.1 h5.2
   rw [List.length_take] at s1
   repeat (first | rw [ko] | rw [kr] | simp -dsimp -implicitDefEqProofs only [go_sem])
   rw [cv_fromS Go.Ai.ty_cl9 Go.Ai.ty_cl92 Go.Ai.ty_el92 Go.Ai.ty_cl5 (by omega)]
   repeat (first | rw [ko] | rw [kr] | simp -dsimp -implicitDefEqProofs only [go_sem, rq1])
   have hle := lg.1
   have hg2 : (g.le ((h'.up n3).push ⟨1, (lsb (pc l l.length (ts.getD i default))).map cB⟩)) := le_push (le_up lg hn3)
   have op : OwnB (hn g .mk) ((h'.up n3).push ⟨1, (lsb (pc l l.length (ts.getD i default))).map cB⟩) (.raw (.slice (some ⟨hn (h'.up n3) .mk, 0, none⟩) (pc l l.length (ts.getD i default)).size (pc l l.length (ts.getD i default)).size)) (lsb (pc l l.length (ts.getD i default))) := Own.new (by rw [hn_up]; omega) (by simp; rfl)
   have ov2 : OwnB (hn g .mk) ((h'.up n3).push ⟨1, (lsb (pc l l.length (ts.getD i default))).map cB⟩) v (lsb (decS l (ts.take i))) := Own.keep ov (le_push (le_up (H2.le.refl _) hn3))
   refine append_own (P := Tryz.prog) (z := 0) (N := hn g .mk) Go.Ai.ty_el92 Go.Ai.ty_zr5 rfl Go.Ai.ty_cl92 ov2 (by rw [hn_push, hn_up]; omega) (src_own op) (by simp) allok_cB (by have : Go.Ai.most = 1099511627776 := rfl; have : (lsb (decS l (ts.take i))).length = (decS l (ts.take i)).size := rfl; have : (lsb (pc l l.length (ts.getD i default))).length = (pc l l.length (ts.getD i default)).size := rfl; omega) ?_
   intro v4 g4 o4 nn4 le4 on4
   repeat (first | rw [ko] | rw [kr] | simp -dsimp -implicitDefEqProofs only [go_sem, rq1, w1])
   refine nx_keep (m - 1) (by omega) zsm ⟨i + 1, v4, le4 g (Nat.le_refl _) hg2, zsm, zsm, ?_, by omega⟩
   have e : lsb (decS l (ts.take (i + 1))) = lsb (decS l (ts.take i)) ++ lsb (pc l l.length (ts.getD i default)) := by
    rw [decS_take h4]; simp [lsb, ByteArray.data_append]
   unfold OwnB
   rw [e, List.map_append, List.length_append]
   exact o4
  ·obtain rfl : i = ts.length := by omega
   rw [List.take_length] at ov
   repeat (first | rw [ko] | rw [kr] | simp -dsimp -implicitDefEqProofs only [go_sem, rq1, hks, e7, e6, h3])
   rw [cv_ownB Go.Ai.ty_cl92 Go.Ai.ty_cl9 zsm zsm zsm ov]
   repeat (first | rw [ko] | rw [kr] | simp -dsimp -implicitDefEqProofs only [go_sem])
   exact ⟨lg, .inr ⟨[_, _], rfl⟩, by rw [decR, htk]; rfl⟩
end Go.Bi
end
section
set_option maxRecDepth 20000
namespace Go.Proofs
open Go.Shelf
def Tryz.lays171_ren : Go.Shelf.Ren := ⟨fun | 171 => 48 | 243 => 76 | 246 => 110 | 283 => 143 | 284 => 144 | 285 => 145 | 286 => 146 | 129 => 171 | 317 => 170 | 318 => 172 | 319 => 173 | 320 => 174 | 337 => 191 | 338 => 192 | n => n, fun | 3 => 3 | 9 => 9 | 2 => 2 | 4 => 4 | 171 => 185 | 0 => 0 | 53 => 64 | 37 => 92 | 5 => 5 | 173 => 188 | 212 => 213 | 51 => 209 | 20 => 20 | 213 => 214 | 46 => 104 | 232 => 236 | 233 => 237 | n => n, fun | 17 => 1 | 18 => 2 | 19 => 3 | n => n⟩
theorem Tryz.lays171 : Go.Proofs.Lays.n171 Tryz.prog Tryz.lays171_ren := {
  mixed := by kernel_rfl
  f129 := Tryz.func171.trans (congrArg some (by kernel_rfl))
  f171 := Tryz.func48.trans (congrArg some (by kernel_rfl))
  f243 := Tryz.func76.trans (congrArg some (by kernel_rfl))
  f246 := Tryz.func110.trans (congrArg some (by kernel_rfl))
  f283 := Tryz.func143.trans (congrArg some (by kernel_rfl))
  f284 := Tryz.func144.trans (congrArg some (by kernel_rfl))
  f285 := Tryz.func145.trans (congrArg some (by kernel_rfl))
  f286 := Tryz.func146.trans (congrArg some (by kernel_rfl))
  f317 := Tryz.func170.trans (congrArg some (by kernel_rfl))
  f318 := Tryz.func172.trans (congrArg some (by kernel_rfl))
  f319 := Tryz.func173.trans (congrArg some (by kernel_rfl))
  f320 := Tryz.func174.trans (congrArg some (by kernel_rfl))
  f337 := Tryz.func191.trans (congrArg some (by kernel_rfl))
  f338 := Tryz.func192.trans (congrArg some (by kernel_rfl))
  t0 := Tryz.underlying0
  a0 := Tryz.isAgg0
  z0 := Tryz.sizeOf0
  v0 := Tryz.zeroValue0
  t2 := Tryz.underlying2
  a2 := Tryz.isAgg2
  z2 := Tryz.sizeOf2
  v2 := Tryz.zeroValue2
  t3 := Tryz.underlying3
  a3 := Tryz.isAgg3
  z3 := Tryz.sizeOf3
  v3 := Tryz.zeroValue3
  t4 := Tryz.underlying4
  a4 := Tryz.isAgg4
  z4 := Tryz.sizeOf4
  v4 := Tryz.zeroValue4
  t5 := Tryz.underlying5
  a5 := Tryz.isAgg5
  z5 := Tryz.sizeOf5
  v5 := Tryz.zeroValue5
  t9 := Tryz.underlying9
  a9 := Tryz.isAgg9
  z9 := Tryz.sizeOf9
  v9 := Tryz.zeroValue9
  t20 := Tryz.underlying20
  a20 := Tryz.isAgg20
  z20 := Tryz.sizeOf20
  v20 := Tryz.zeroValue20
  t37 := Tryz.underlying92
  a37 := Tryz.isAgg92
  z37 := Tryz.sizeOf92
  v37 := Tryz.zeroValue92
  t46 := Tryz.underlying104
  a46 := Tryz.isAgg104
  z46 := Tryz.sizeOf104
  v46 := Tryz.zeroValue104
  t51 := Tryz.underlying209
  a51 := Tryz.isAgg209
  z51 := Tryz.sizeOf209
  v51 := Tryz.zeroValue209
  t53 := Tryz.underlying64
  a53 := Tryz.isAgg64
  z53 := Tryz.sizeOf64
  v53 := Tryz.zeroValue64
  t171 := Tryz.underlying185
  a171 := Tryz.isAgg185
  z171 := Tryz.sizeOf185
  v171 := Tryz.zeroValue185
  t173 := Tryz.underlying188
  a173 := Tryz.isAgg188
  z173 := Tryz.sizeOf188
  v173 := Tryz.zeroValue188
  t212 := Tryz.underlying213
  a212 := Tryz.isAgg213
  z212 := Tryz.sizeOf213
  v212 := Tryz.zeroValue213
  t213 := Tryz.underlying214
  a213 := Tryz.isAgg214
  z213 := Tryz.sizeOf214
  t232 := Tryz.underlying236
  a232 := Tryz.isAgg236
  z232 := Tryz.sizeOf236
  v232 := Tryz.zeroValue236
  t233 := Tryz.underlying237
  a233 := Tryz.isAgg237
  z233 := Tryz.sizeOf237
  v233 := Tryz.zeroValue237
  g17 := by kernel_rfl
  g18 := by kernel_rfl
  g19 := by kernel_rfl }
end Go.Proofs
namespace Go.Bi
open Go.Proofs
open Go.Ai (wrap_i64 wrap_u8 Heap)
variable {W0 : World} {P : Program}
def figN (n : Nat) : UInt8 := UInt8.ofNat (if n < 10 then 48 + n else 87 + n)
def hexB (s : ByteArray) (i : Nat) : List UInt8 := (List.range i).flatMap fun j => [figN ((s.data.getD j 0).toNat / 16), figN ((s.data.getD j 0).toNat % 16)]
def hexT (s : ByteArray) : ByteArray := if s.size > 12000 then ⟨#[]⟩ else ⟨(hexB s s.size).toArray⟩
def hexK (s : ByteArray) : Bool := !decide (s.size > 12000)
theorem hexB_snoc {s : ByteArray} {i : Nat} : hexB s (i + 1) = hexB s i ++ [figN ((s.data.getD i 0).toNat / 16), figN ((s.data.getD i 0).toNat % 16)] := by
 unfold hexB
 rw [List.range_succ, List.flatMap_append]
 simp
theorem hexB_len {s : ByteArray} : ∀ {i : Nat}, (hexB s i).length = 2 * i
 | 0 => rfl
 | i + 1 => by rw [hexB_snoc, List.length_append, hexB_len]; simp; omega
theorem append_byte2 {D : Nat → Option (List Nat)} {g : H2} {K : KT} {t u U y N : Nat} {bs : List UInt8} {x : X} {f : Adr} {b c : UInt8} (he : Go.Ai.elt? P t = some (U, 1, y)) (hz : Go.Ai.zr? P U = some [.int .u8 0]) (hu : Go.Ai.cls? P u = some .sl)
  (hx : OwnB N g x bs) (hN0 : N ≤ hn g .mk) (hn0 : (bs.length + 2) * (y + 1) ≤ Go.Ai.most)
  (hk : ∀ v' g', OwnB N g' v' (bs ++ [b, c]) → hn g .mk ≤ hn g' .mk → (∀ g0 : H2, hn g0 .mk ≤ N → g0.le g → g0.le g') → (∀ c, c < hn g .mk → blockOf x ≠ some c → hg g' c .mk = hg g c .mk) → kz K v' g' .mk) :
  az (biz P g .append [t, u] [x, .sl f 1 [[.v (.int .u8 b.toNat)], [.v (.int .u8 c.toNat)]]] .mk) K .mk := by
 refine append_own (z := 0) (m := 2) (news := [cB b, cB c]) (N := N) he hz rfl hu hx hN0 rfl rfl rfl hn0 ?_
 intro v' g' o
 refine hk v' g' ?_
 unfold OwnB
 rw [List.map_append, List.length_append]
 exact o
theorem figure_ok {n : Nat} {g : H2} (hn0 : n < 16) : PW Tryz.prog W0 37 [.raw (.int .i64 (n : Nat))] g (fun y => y = .raw (.int .u8 (figN n).toNat)) := by
 refine PW.scalar ?_
 refine begins [[0], [0], [0], [0]] Tryz.func37 rfl (rs := [.tmp 2]) rfl rfl ?_
 intro wf
 have hf : ∀ k : Fin 16, ((figN k.val).toNat : Int) = if k.val < 10 then 48 + (k.val : Int) else 87 + (k.val : Int) := by decide +kernel
 have h1 := hf ⟨n, hn0⟩
 simp only at h1
 by_cases h2 : (n : Int) < 10
 ·have w1 : IntKind.i64.wrap (48 + (n : Int)) = 48 + (n : Int) := by rw [wrap_i64] <;> omega
  have w2 : IntKind.u8.wrap (48 + (n : Int)) = 48 + (n : Int) := by rw [wrap_u8]; omega
  repeat (first | rw [ko] | rw [kr] | simp -dsimp -implicitDefEqProofs only [go_sem, h2, w1, w2])
  exact ⟨H2.le.refl _, ⟨_, rfl⟩, by rw [h1, if_pos (by omega)]⟩
 ·have w1 : IntKind.i64.wrap (97 + (n : Int)) = 97 + (n : Int) := by rw [wrap_i64] <;> omega
  have w3 : IntKind.i64.wrap (97 + (n : Int) - 10) = 87 + (n : Int) := by rw [wrap_i64] <;> omega
  have w2 : IntKind.u8.wrap (87 + (n : Int)) = 87 + (n : Int) := by rw [wrap_u8]; omega
  repeat (first | rw [ko] | rw [kr] | simp -dsimp -implicitDefEqProofs only [go_sem, h2, w1, w2, w3])
  exact ⟨H2.le.refl _, ⟨_, rfl⟩, by rw [h1, if_neg (by omega)]⟩
theorem at_str {s : ByteArray} {i : Nat} (hi : i < s.size) : Go.Ai.indexV Tryz.prog 9 (.string s) (.int .i64 (i : Nat)) = some (.int .u8 ((s.data.getD i 0).toNat : Nat)) := by
 have hi' : ((i : Nat) : Int).toNat < s.size := by rw [Int.toNat_natCast]; exact hi
 rw [Go.Ai.ix_at Go.Ai.ty_cl9 (by omega) hi']
 have h1 : s[((i : Nat) : Int).toNat]'hi' = s.data.getD i 0 := by
  simp only [Int.toNat_natCast]
  have : i < s.data.size := hi
  show s.data[i]'this = _
  rw [Array.getD_eq_getD_getElem?, Array.getElem?_eq_getElem this]; rfl
 rw [h1]
theorem at_fig {k : Nat} (hk : k < 16) : Go.Ai.indexV Tryz.prog 9 (.string ⟨#[48, 49, 50, 51, 52, 53, 54, 55, 56, 57, 97, 98, 99, 100, 101, 102]⟩) (.int .u8 (k : Nat)) = some (.int .u8 ((figN k).toNat : Nat)) := by
 unfold Go.Ai.indexV
 rw [Go.Ai.ty_cl9]
 have : ∀ k : Fin 16, (if (0 : Int) ≤ (k.val : Int) then (match (⟨#[48, 49, 50, 51, 52, 53, 54, 55, 56, 57, 97, 98, 99, 100, 101, 102]⟩ : ByteArray)[((k.val : Nat) : Int).toNat]? with | some b => some b.toNat | none => none) else none) = some (figN k.val).toNat := by decide +kernel
 have h1 := this ⟨k, hk⟩
 simp only at h1 ⊢
 rw [if_pos (by omega)] at h1 ⊢
 split at h1
 ·rename_i b hb
  simp only [hb]
  simp only [Option.some.injEq] at h1
  rw [h1]
 ·cases h1
theorem u8_shr4 {x : UInt8} : Go.Ai.shrI .u8 (x.toNat : Nat) 4 = ((x.toNat / 16 : Nat) : Int) := by
 unfold Go.Ai.shrI
 show Int.fdiv (x.toNat : Nat) 16 = _
 rw [Int.fdiv_eq_ediv_of_nonneg _ (by omega)]; omega
theorem u8_and15 {x : UInt8} : bits .and .u8 (x.toNat : Nat) 15 = ((x.toNat % 16 : Nat) : Int) := by
 have : ∀ k : Fin 256, bits .and .u8 ((k.val : Nat) : Int) 15 = ((k.val % 16 : Nat) : Int) := by decide +kernel
 exact this ⟨x.toNat, x.toNat_lt⟩
theorem implHex_ok {s : ByteArray} {g : H2} : PW Tryz.prog W0 19 [.raw (.string s)] g (fun y => y = .tp [.raw (.string (hexT s)), .raw (.bool (hexK s))]) := by
 refine PW.plainK ?_
 refine begins [[0], [0], [], [0], [0, 4], [0, 4, 11, 12], [0, 4, 11, 12], [0, 4, 5, 11, 12], [0, 4, 11, 12], [4]] Tryz.func19 rfl (rs := [.tmp 2, .tmp 3]) rfl rfl ?_
 intro wf
 repeat (first | rw [ko] | rw [kr] | simp -dsimp -implicitDefEqProofs only [go_sem])
 refine gz_dec (fun q0 => ?_) (fun q0 => ?_)
 ·repeat (first | rw [ko] | rw [kr] | simp -dsimp -implicitDefEqProofs only [go_sem])
  exact ⟨H2.le.refl _, .inr ⟨[_, _], rfl⟩, by rw [hexT, hexK, if_pos (by omega), decide_eq_true (by omega)]; rfl⟩
 repeat (first | rw [ko] | rw [kr] | simp -dsimp -implicitDefEqProofs only [go_sem, rq1, rq3])
 refine lz_keep [0, 11] (fun m e h' => ∃ (i : Nat) (v : X), look e 12 .mk = .raw (.int .i64 (i : Nat)) ∧ look e 4 .mk = v ∧ m + i = s.size ∧ OwnB (hn g .mk) h' v (hexB s i) ∧ g.le h') s.size ?_ ?_
 ·exact ⟨0, .raw (.slice (some ⟨hn g .mk, 0, none⟩) 0 0), zsm, zsm, by omega, Own.new (Nat.le_refl _) rfl, H2.le_push1 g _⟩
 rintro m e h' hks ⟨i, v, ei, e4, hm, ob, le⟩
 simp -dsimp -implicitDefEqProofs only [go_sem, rq1] at hks
 by_cases q1 : (i : Int) < (s.size : Int)
 ·have q2 : i < s.size := by omega
  have w1 := wrap_succ q2 (by omega)
  have x1 := at_str q2
  have hb := (s.data.getD i 0).toNat_lt
  have y1 := at_fig (k := (s.data.getD i 0).toNat / 16) (by omega)
  have y2 := at_fig (k := (s.data.getD i 0).toNat % 16) (by omega)
  have s1 := u8_shr4 (x := s.data.getD i 0)
  have s2 := u8_and15 (x := s.data.getD i 0)
  have h4 : (0 : Int) ≤ 4 := by omega
  repeat (first | rw [ko] | rw [kr] | simp -dsimp -implicitDefEqProofs only [go_sem, rq1, hks, ei, e4, q1])
  refine dq_intro [(0, []), (1, []), (2, []), (3, []), (4, []), (5, []), (6, []), (7, []), (8, []), (9, []), (10, []), (11, []), (12, []), (13, [])] (by kernel_rfl) ?_
  repeat (first | rw [ko] | rw [kr] | simp -dsimp -implicitDefEqProofs only [go_sem, rq1, rq2, rq3, x1, y1, y2, s1, s2, h4])
  refine append_byte2 (D := fun _ => none) (N := hn g .mk) (b := figN ((s.data.getD i 0).toNat / 16)) (c := figN ((s.data.getD i 0).toNat % 16)) Go.Ai.ty_el92 Go.Ai.ty_zr5 Go.Ai.ty_cl92 (ob.keep (le_up1 (H2.le.refl _))) (by have := le.n; first | (simp only [hn_up]; omega) | (simp only [hn_up] at *; omega)) (by have : Go.Ai.most = 1099511627776 := rfl; rw [hexB_len]; omega) ?_
  intro v' g' o' hn' hle _
  repeat (first | rw [ko] | rw [kr] | simp -dsimp -implicitDefEqProofs only [go_sem, rq1, w1])
  exact nx_keep (m - 1) (by omega) zsm ⟨i + 1, v', zsm, zsm, by omega, by rw [hexB_snoc]; exact o', hle g (Nat.le_refl _) (le_up1 le)⟩
 have hi : i = s.size := by omega
 have hcv := cv_ownB (P := Tryz.prog) (s := 92) (d := 9) Go.Ai.ty_cl92 Go.Ai.ty_cl9 zsm zsm zsm ob
 repeat (first | rw [ko] | rw [kr] | simp -dsimp -implicitDefEqProofs only [go_sem, rq1, hks, ei, e4, q1, hcv])
 exact ⟨le, .inr ⟨[_, _], rfl⟩, by rw [hexT, hexK, if_neg (by omega), decide_eq_false (by omega), hi]; rfl⟩
theorem specHex_ok {s : ByteArray} {g : H2} : PW Tryz.prog W0 13 [.raw (.string s)] g (fun y => y = .tp [.raw (.string (hexT s)), .raw (.bool (hexK s))]) := by
 refine PW.plainK ?_
 refine begins [[0], [0], [], [0], [0, 4], [0, 4, 5], [0, 4, 5], [0, 4, 5], [4]] Tryz.func13 rfl (rs := [.tmp 2, .tmp 3]) rfl rfl ?_
 intro wf
 repeat (first | rw [ko] | rw [kr] | simp -dsimp -implicitDefEqProofs only [go_sem])
 refine gz_dec (fun q0 => ?_) (fun q0 => ?_)
 ·repeat (first | rw [ko] | rw [kr] | simp -dsimp -implicitDefEqProofs only [go_sem])
  exact ⟨H2.le.refl _, .inr ⟨[_, _], rfl⟩, by rw [hexT, hexK, if_pos (by omega), decide_eq_true (by omega)]; rfl⟩
 repeat (first | rw [ko] | rw [kr] | simp -dsimp -implicitDefEqProofs only [go_sem, rq1, rq3])
 refine lz_keep [0] (fun m e h' => ∃ (i : Nat) (v : X), look e 5 .mk = .raw (.int .i64 (i : Nat)) ∧ look e 4 .mk = v ∧ m + i = s.size ∧ OwnB (hn g .mk) h' v (hexB s i) ∧ g.le h') s.size ?_ ?_
 ·exact ⟨0, .raw (.slice (some ⟨hn g .mk, 0, none⟩) 0 0), zsm, zsm, by omega, Own.new (Nat.le_refl _) rfl, H2.le_push1 g _⟩
 rintro m e h' hks ⟨i, v, ei, e4, hm, ob, le⟩
 simp -dsimp -implicitDefEqProofs only [go_sem, rq1] at hks
 by_cases q1 : (i : Int) < (s.size : Int)
 ·have q2 : i < s.size := by omega
  have w1 := wrap_succ q2 (by omega)
  have x1 := at_str q2
  have hb := (s.data.getD i 0).toNat_lt
  have c1 : IntKind.i64.wrap (((s.data.getD i 0).toNat : Nat) : Int) = (((s.data.getD i 0).toNat : Nat) : Int) := by rw [wrap_i64] <;> omega
  have s1 : IntKind.i64.wrap ((((s.data.getD i 0).toNat : Nat) : Int).tdiv 16) = (((s.data.getD i 0).toNat / 16 : Nat) : Int) := by
   rw [Int.tdiv_eq_ediv_of_nonneg (by omega), wrap_i64] <;> omega
  have s2 : IntKind.i64.wrap ((((s.data.getD i 0).toNat : Nat) : Int).tmod 16) = (((s.data.getD i 0).toNat % 16 : Nat) : Int) := by
   rw [Int.tmod_eq_emod_of_nonneg (by omega), wrap_i64] <;> omega
  have s3 : (((s.data.getD i 0).toNat : Nat) : Int).tmod 16 = (((s.data.getD i 0).toNat % 16 : Nat) : Int) := by
   rw [Int.tmod_eq_emod_of_nonneg (by omega)]; omega
  have t16 : ((16 : Int) == 0) = false := rfl
  repeat (first | rw [ko] | rw [kr] | simp -dsimp -implicitDefEqProofs only [go_sem, rq1, hks, ei, e4, q1])
  refine dq_intro [(0, []), (1, []), (2, []), (3, []), (4, []), (5, []), (7, []), (8, []), (9, []), (10, []), (11, []), (6, []), (12, []), (13, []), (14, []), (15, [])] (by kernel_rfl) ?_
  repeat (first | rw [ko] | rw [kr] | simp -dsimp -implicitDefEqProofs only [go_sem, rq1, x1, c1, s1, s3, t16])
  refine pw_intro (figure_ok (n := (s.data.getD i 0).toNat / 16) (by omega)) ?_
  rintro _ n1 hn1 rfl
  repeat (first | rw [ko] | rw [kr] | simp -dsimp -implicitDefEqProofs only [go_sem, rq1])
  refine pw_intro (figure_ok (n := (s.data.getD i 0).toNat % 16) (by omega)) ?_
  rintro _ n2 hn2 rfl
  repeat (first | rw [ko] | rw [kr] | simp -dsimp -implicitDefEqProofs only [go_sem, rq1, rq2, rq3])
  refine append_byte2 (D := fun _ => none) (N := hn g .mk) (b := figN ((s.data.getD i 0).toNat / 16)) (c := figN ((s.data.getD i 0).toNat % 16)) Go.Ai.ty_el92 Go.Ai.ty_zr5 Go.Ai.ty_cl92 (ob.keep zale) (by have := le.n; first | (simp only [hn_up]; omega) | (simp only [hn_up] at *; omega)) (by have : Go.Ai.most = 1099511627776 := rfl; rw [hexB_len]; omega) ?_
  intro v' g' o' hn' hle _
  repeat (first | rw [ko] | rw [kr] | simp -dsimp -implicitDefEqProofs only [go_sem, rq1, w1])
  exact nx_keep (m - 1) (by omega) zsm ⟨i + 1, v', zsm, zsm, by omega, by rw [hexB_snoc]; exact o', hle g (Nat.le_refl _) zale⟩
 have hi : i = s.size := by omega
 have hcv := cv_ownB (P := Tryz.prog) (s := 92) (d := 9) Go.Ai.ty_cl92 Go.Ai.ty_cl9 zsm zsm zsm ob
 repeat (first | rw [ko] | rw [kr] | simp -dsimp -implicitDefEqProofs only [go_sem, rq1, hks, ei, e4, q1, hcv])
 exact ⟨le, .inr ⟨[_, _], rfl⟩, by rw [hexT, hexK, if_neg (by omega), decide_eq_false (by omega), hi]; rfl⟩
def decN (n : Nat) : ByteArray := ⟨(Lib.decDigits n).toArray⟩
theorem itoa_ok {i : Nat} {g : H2} (hi : i < 100) : WC2 Tryz.prog W0 48 [.raw (.int .i64 (i : Nat))] g (fun x g' => x = .raw (.string (decN i)) ∧ g' = g) := by
 intro h sg _
 refine ⟨by kernel_rfl, fun ι w args' sim ha => ?_⟩
 obtain ⟨args'⟩ := args'
 have ha' : args' = [.int .i64 (i : Nat)] := by
  cases ha with
  | cons a b =>
   cases b
   have a' : _ = Value.int .i64 (i : Nat) := a
   rw [a']
 subst ha'
 refine (Any.strconv_Itoa_small { Tryz.lays171 with } i hi w).mono ?_
 rintro e w' ⟨rfl, rfl⟩
 exact ⟨.string (decN i), _, h, ι, rfl, Go.Ai.Ren.le_refl _, sim, rfl, .raw (.string (decN i)), g, rfl, sg, Ext.refl, .raw, rfl, rfl⟩
theorem implDec_ok {n : Nat} {g : H2} (hn0 : n < 100) : PW Tryz.prog W0 20 [.raw (.int .i64 (n : Nat))] g (fun y => y = .raw (.string (decN n))) := by
 refine PW.scalar ?_
 refine begins [[0], [0]] Tryz.func20 rfl (rs := [.tmp 2]) rfl rfl ?_
 intro wf
 repeat (first | rw [ko] | rw [kr] | simp -dsimp -implicitDefEqProofs only [go_sem])
 refine wz_intro (itoa_ok hn0) ?_
 rintro _ h2 ⟨rfl, rfl⟩
 repeat (first | rw [ko] | rw [kr] | simp -dsimp -implicitDefEqProofs only [go_sem])
 exact ⟨H2.le.refl _, ⟨_, rfl⟩, rfl⟩
theorem specDec_ok {n : Nat} {g : H2} (hn0 : n < 100) : PW Tryz.prog W0 14 [.raw (.int .i64 (n : Nat))] g (fun y => y = .raw (.string (decN n))) := by
 refine PW.scalar ?_
 refine begins [[0], [0], [], [0], [0, 3], [0, 3, 4], [0, 3, 4], [0, 3, 4, 5], [0, 3, 4, 5], [0, 3, 4, 5], [0, 3, 4], [3, 4], [4], [4]] Tryz.func14 rfl (rs := [.tmp 2]) rfl rfl ?_
 intro wf
 repeat (first | rw [ko] | rw [kr] | simp -dsimp -implicitDefEqProofs only [go_sem])
 have hD : ∀ k : Fin 100, Lib.decDigits k.val = if k.val < 10 then [figN k.val] else [figN (k.val / 10), figN (k.val % 10)] := by decide +kernel
 have hd := hD ⟨n, hn0⟩
 simp only at hd
 refine gz_dec (fun q0 => ?_) (fun q0 => ?_)
 ·repeat (first | rw [ko] | rw [kr] | simp -dsimp -implicitDefEqProofs only [go_sem])
  exact ⟨H2.le.refl _, ⟨_, rfl⟩, by rw [decN, hd, if_pos (by omega), show n = 0 by omega]; rfl⟩
 have l0 : ¬ (n : Int) < 0 := by omega
 repeat (first | rw [ko] | rw [kr] | simp -dsimp -implicitDefEqProofs only [go_sem, rq1, l0])
 refine lz_keep [3] (fun m e h' => ∃ (k : Nat) (t : List UInt8), look e 0 .mk = .raw (.int .i64 (k : Nat)) ∧ look e 4 .mk = .raw (.string ⟨t.toArray⟩) ∧ m = k ∧ g.le h' ∧ ((k = n ∧ t = []) ∨ (10 ≤ n ∧ k = n / 10 ∧ t = [figN (n % 10)]) ∨ (k = 0 ∧ t = Lib.decDigits n))) n ?_ ?_
 ·exact ⟨n, [], zsm, zsm, rfl, H2.le.refl _, .inl ⟨rfl, rfl⟩⟩
 rintro m e h' hks ⟨k, t, e0, e4, rfl, le, inv⟩
 simp -dsimp -implicitDefEqProofs only [go_sem] at hks
 by_cases q1 : m = 0
 ·have d1 : decide (¬ ((m : Nat) : Int) = 0) = false := zne
  repeat (first | rw [ko] | rw [kr] | simp -dsimp -implicitDefEqProofs only [go_sem, rq1, hks, e0, e4, d1])
  refine ⟨le, ⟨_, rfl⟩, ?_⟩
  rcases inv with ⟨e, _⟩ | ⟨h1, e, _⟩ | ⟨_, rfl⟩
  ·omega
  ·omega
  ·rfl
 ·have d1 : decide (¬ ((m : Nat) : Int) = 0) = true := by simp; omega
  have r1 : ((m : Nat) : Int).tmod 10 = ((m % 10 : Nat) : Int) := by rw [Int.tmod_eq_emod_of_nonneg (by omega)]; omega
  have r2 : IntKind.i64.wrap ((m % 10 : Nat) : Int) = ((m % 10 : Nat) : Int) := by rw [wrap_i64] <;> omega
  have r3 : IntKind.i64.wrap (((m : Nat) : Int).tdiv 10) = ((m / 10 : Nat) : Int) := by rw [Int.tdiv_eq_ediv_of_nonneg (by omega), wrap_i64] <;> omega
  have l1 : ¬ ((m % 10 : Nat) : Int) < 0 := by omega
  have t10 : ((10 : Int) == 0) = false := rfl
  repeat (first | rw [ko] | rw [kr] | simp -dsimp -implicitDefEqProofs only [go_sem, rq1, hks, e0, e4, d1, r1, l1, t10])
  refine pw_intro (figure_ok (n := m % 10) (by omega)) ?_
  rintro _ n1 hn1 rfl
  have ht : t.length ≤ 2 := by
   rcases inv with ⟨_, rfl⟩ | ⟨_, _, rfl⟩ | ⟨_, rfl⟩
   ·simp
   ·simp
   ·rw [hd]; split <;> simp
  have hu : UInt8.ofNat (figN (m % 10)).toNat = figN (m % 10) := UInt8.ofNat_toNat
  have hs : Go.Ai.binS BinOp.add ⟨#[UInt8.ofNat (figN (m % 10)).toNat]⟩ ⟨t.toArray⟩ = some (.string ⟨(figN (m % 10) :: t).toArray⟩) := by
   rw [hu]
   refine (Go.Ai.s_add (by show ((1 + t.length : Nat) : Int) ≤ _; omega)).trans ?_
   rw [show ((⟨#[figN (m % 10)]⟩ : ByteArray) ++ (⟨t.toArray⟩ : ByteArray)) = ⟨(figN (m % 10) :: t).toArray⟩ from by apply ByteArray.ext; rw [ByteArray.data_append]; simp]
  repeat (first | rw [ko] | rw [kr] | simp -dsimp -implicitDefEqProofs only [go_sem, rq1, rq3, r3, t10, hs])
  refine nx_keep (m / 10) (by omega) zsm ⟨m / 10, figN (m % 10) :: t, zsm, zsm, rfl, le_up le (by show hn h' .mk ≤ _; omega), ?_⟩
  rcases inv with ⟨rfl, rfl⟩ | ⟨h1, h2, rfl⟩ | ⟨e, _⟩
  ·by_cases h10 : m < 10
   ·exact .inr (.inr ⟨by omega, by rw [hd, if_pos h10, Nat.mod_eq_of_lt h10]⟩)
   ·exact .inr (.inl ⟨by omega, rfl, rfl⟩)
  ·exact .inr (.inr ⟨by omega, by rw [hd, if_neg (by omega), h2, Nat.mod_eq_of_lt (a := n / 10) (b := 10) (by omega)]⟩)
  ·exact absurd e q1
end Go.Bi
end
