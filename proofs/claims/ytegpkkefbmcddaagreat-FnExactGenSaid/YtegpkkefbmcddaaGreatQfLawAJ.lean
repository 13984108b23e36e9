/- Own lemmas that the theorem of this claim needs: the abstract machine and walks of functions. -/
import Derived.Test.YtegpkkefbmcddaaGreatQfLawAI
set_option linter.unusedSimpArgs false
set_option linter.unusedVariables false
open Nat renaming reduceBEq → sQ1, reduceAdd → sQ2, reduceLeDiff → sQ3, reduceMul → sQ4
open Int renaming reduceLE → sQ5, reduceLT → sQ6, reduceBEq → sQ7
section
set_option maxRecDepth 20000
namespace Go.Bi
open Go.Proofs
open Go.Ai (wrap_i64 wrap_u64 wrap_u8 Heap)
variable {W0 : World} {P : Program}
set_option maxHeartbeats 4000000
def Cm (l : Aj) (d : Int) : Bool := DA l.gain1 d && (DA l.gain2 d && (Bk l.up.rows.length && (BD l.q d d && (BD l.k d d && (BD l.v d d && (BD l.o d d && (BD l.up d l.up.rows.length && BD l.down l.up.rows.length d)))))))
def gX (l : List AR) : List (List T) := l.map EU
theorem af {l : List AR} : (gX l).length = l.length := by simp [gX]
theorem du {l : List AR} {i : Nat} (hi : i < l.length) : el (gX l) i = EU (l.getD i default) := Gg hi
attribute [go_sem] af du
def Li (l : Aj) : Prop := l.gain1.length ≤ 1048576 ∧ l.gain2.length ≤ 1048576 ∧ DM l.q ∧ DM l.k ∧ DM l.v ∧ DM l.o ∧ DM l.up ∧ DM l.down
theorem JZ {F : Nat → AQ} {l : Aj} {d : Int} {g : H2} (hs : Li l) : PW Tryz.prog W0 103 [.st (C1 F l), .raw (.int .i64 d)] g (fun y => y = .raw (.bool (Bk d && Cm l d))) := by
 obtain ⟨s1, s2, s3, s4, s5, s6, s7, s8⟩ := hs
 refine PW.scalar ?_
 refine AH [[0, 1], [1, 2], [1, 2, 5]] Tryz.func103 rfl (rs := [.tmp 4]) rfl rfl ?_
 intro wf
 refine zh ?_
 refine AA EE ?_
 rintro _ _ ⟨rfl, rfl⟩
 cases h1 : Bk d
 ·refine zh ?_
  exact ⟨le_push (H2.le.refl _), ⟨_, rfl⟩, rfl⟩
 refine zh ?_
 refine AA EE ?_
 rintro _ _ ⟨rfl, rfl⟩
 cases h2 : Bk l.up.rows.length
 ·refine zh ?_
  exact ⟨le_push (H2.le.refl _), ⟨_, rfl⟩, by rw [Cm, h2]; simp⟩
 refine zh ?_
 refine AD (FH s1) ?_
 rintro _ n3 hn3 rfl
 try simp only [AB] at hn3
 cases h3 : DA l.gain1 d
 ·refine zh ?_
  exact ⟨AK (le_push (H2.le.refl _)) (by first | exact hn3 | (simp only [AB, AF]; omega)), ⟨_, rfl⟩, by rw [Cm, h2, h3]; simp⟩
 refine zh ?_
 refine AD (FH s2) ?_
 rintro _ n4 hn4 rfl
 try simp only [AF] at hn4
 cases h4 : DA l.gain2 d
 ·refine zh ?_
  exact ⟨AK (AK (le_push (H2.le.refl _)) (by first | exact hn3 | (simp only [AB, AF]; omega))) (by first | exact hn4 | (simp only [AB, AF]; omega)), ⟨_, rfl⟩, by rw [Cm, h2, h3, h4]; simp⟩
 refine zh ?_
 refine AD (B5 (F := fun j => F (j + 1)) (m := l.q) s3) ?_
 rintro _ n5 hn5 rfl
 try simp only [AF] at hn5
 cases h5 : BD l.q d d
 ·refine zh ?_
  exact ⟨AK (AK (AK (le_push (H2.le.refl _)) (by first | exact hn3 | (simp only [AB, AF]; omega))) (by first | exact hn4 | (simp only [AB, AF]; omega))) (by first | exact hn5 | (simp only [AB, AF]; omega)), ⟨_, rfl⟩, by rw [Cm, h2, h3, h4, h5]; simp⟩
 refine zh ?_
 refine AD (B5 (F := fun j => F (j + 6)) (m := l.k) s4) ?_
 rintro _ n6 hn6 rfl
 try simp only [AF] at hn6
 cases h6 : BD l.k d d
 ·refine zh ?_
  exact ⟨AK (AK (AK (AK (le_push (H2.le.refl _)) (by first | exact hn3 | (simp only [AB, AF]; omega))) (by first | exact hn4 | (simp only [AB, AF]; omega))) (by first | exact hn5 | (simp only [AB, AF]; omega))) (by first | exact hn6 | (simp only [AB, AF]; omega)), ⟨_, rfl⟩, by rw [Cm, h2, h3, h4, h5, h6]; simp⟩
 refine zh ?_
 refine AD (B5 (F := fun j => F (j + 11)) (m := l.v) s5) ?_
 rintro _ n7 hn7 rfl
 try simp only [AF] at hn7
 cases h7 : BD l.v d d
 ·refine zh ?_
  exact ⟨AK (AK (AK (AK (AK (le_push (H2.le.refl _)) (by first | exact hn3 | (simp only [AB, AF]; omega))) (by first | exact hn4 | (simp only [AB, AF]; omega))) (by first | exact hn5 | (simp only [AB, AF]; omega))) (by first | exact hn6 | (simp only [AB, AF]; omega))) (by first | exact hn7 | (simp only [AB, AF]; omega)), ⟨_, rfl⟩, by rw [Cm, h2, h3, h4, h5, h6, h7]; simp⟩
 refine zh ?_
 refine AD (B5 (F := fun j => F (j + 16)) (m := l.o) s6) ?_
 rintro _ n8 hn8 rfl
 try simp only [AF] at hn8
 cases h8 : BD l.o d d
 ·refine zh ?_
  exact ⟨AK (AK (AK (AK (AK (AK (le_push (H2.le.refl _)) (by first | exact hn3 | (simp only [AB, AF]; omega))) (by first | exact hn4 | (simp only [AB, AF]; omega))) (by first | exact hn5 | (simp only [AB, AF]; omega))) (by first | exact hn6 | (simp only [AB, AF]; omega))) (by first | exact hn7 | (simp only [AB, AF]; omega))) (by first | exact hn8 | (simp only [AB, AF]; omega)), ⟨_, rfl⟩, by rw [Cm, h2, h3, h4, h5, h6, h7, h8]; simp⟩
 refine zh ?_
 refine AD (B5 (F := fun j => F (j + 22)) (m := l.up) s7) ?_
 rintro _ n9 hn9 rfl
 try simp only [AF] at hn9
 cases h9 : BD l.up d l.up.rows.length
 ·refine zh ?_
  exact ⟨AK (AK (AK (AK (AK (AK (AK (le_push (H2.le.refl _)) (by first | exact hn3 | (simp only [AB, AF]; omega))) (by first | exact hn4 | (simp only [AB, AF]; omega))) (by first | exact hn5 | (simp only [AB, AF]; omega))) (by first | exact hn6 | (simp only [AB, AF]; omega))) (by first | exact hn7 | (simp only [AB, AF]; omega))) (by first | exact hn8 | (simp only [AB, AF]; omega))) (by first | exact hn9 | (simp only [AB, AF]; omega)), ⟨_, rfl⟩, by rw [Cm, h2, h3, h4, h5, h6, h7, h8, h9]; simp⟩
 refine zh ?_
 refine AD (B5 (F := fun j => F (j + 27)) (m := l.down) s8) ?_
 rintro _ n10 hn10 rfl
 try simp only [AF] at hn10
 refine zh ?_
 exact ⟨AK (AK (AK (AK (AK (AK (AK (AK (le_push (H2.le.refl _)) (by first | exact hn3 | (simp only [AB, AF]; omega))) (by first | exact hn4 | (simp only [AB, AF]; omega))) (by first | exact hn5 | (simp only [AB, AF]; omega))) (by first | exact hn6 | (simp only [AB, AF]; omega))) (by first | exact hn7 | (simp only [AB, AF]; omega))) (by first | exact hn8 | (simp only [AB, AF]; omega))) (by first | exact hn9 | (simp only [AB, AF]; omega))) (by first | exact hn10 | (simp only [AB, AF]; omega)), ⟨_, rfl⟩, by rw [Cm, h2, h3, h4, h5, h6, h7, h8, h9]; simp⟩
theorem OL {F : Nat → AQ} {l : Aj} {d : Int} {g : H2} (hs : Li l) : PW Tryz.prog W0 126 [.st (C1 F l), .raw (.int .i64 d)] g (fun y => y = .raw (.bool (Cm l d))) := by
 obtain ⟨s1, s2, s3, s4, s5, s6, s7, s8⟩ := hs
 refine PW.scalar ?_
 refine AH [[0, 1], [1, 2], [1, 2, 5], [], [1, 2, 5], [1, 2, 5, 37, 38, 39], [1, 2, 5, 37, 38, 39], [1, 2, 5, 7, 37, 38, 39], [], [1, 2, 5, 37, 38, 39], [1, 2, 5]] Tryz.func126 rfl (rs := [.tmp 4]) rfl rfl ?_
 intro wf
 refine zh ?_
 refine AD (HW s1) ?_
 rintro _ n1 hn1 rfl
 simp only [AB] at hn1
 have L1 : ∀ k : OB, g.le ((g.push k).up n1) := fun k => AK (le_push (H2.le.refl _)) (by rw [AB]; exact hn1)
 cases h1 : DA l.gain1 d
 ·refine zh ?_
  exact ⟨L1 _, ⟨_, rfl⟩, by rw [Cm, h1]; rfl⟩
 refine zh ?_
 refine AD (HW s2) ?_
 rintro _ n2 hn2 rfl
 rw [AF] at hn2
 have L2 : ∀ k : OB, g.le (((g.push k).up n1).up n2) := fun k => AK (L1 k) (by rw [AF]; exact hn2)
 cases h2 : DA l.gain2 d
 ·refine zh ?_
  exact ⟨L2 _, ⟨_, rfl⟩, by rw [Cm, h1, h2]; rfl⟩
 refine zh ?_
 refine AA Ga ?_
 rintro _ _ ⟨rfl, rfl⟩
 cases h3 : Bk l.up.rows.length
 ·refine zh ?_
  exact ⟨L2 _, ⟨_, rfl⟩, by rw [Cm, h1, h2, h3]; rfl⟩
 refine zh ?_
 have L3 : ∀ k : OB, g.le ((((g.push k).up n1).up n2).up (n2 + 1)) := fun k => AK (L2 k) (Nat.le_succ _)
 generalize hF : FY n2 4 5 _ = fL
 have hes : ([[.v (.int .i64 l.q.width), .l 1 (AE l.q.rows), .l 1 (AE l.q.scales), .v (.int .i64 l.q.mul), .v (.int .i64 l.q.shift)], [.v (.int .i64 l.k.width), .l 1 (AE l.k.rows), .l 1 (AE l.k.scales), .v (.int .i64 l.k.mul), .v (.int .i64 l.k.shift)], [.v (.int .i64 l.v.width), .l 1 (AE l.v.rows), .l 1 (AE l.v.scales), .v (.int .i64 l.v.mul), .v (.int .i64 l.v.shift)], [.v (.int .i64 l.o.width), .l 1 (AE l.o.rows), .l 1 (AE l.o.scales), .v (.int .i64 l.o.mul), .v (.int .i64 l.o.shift)]] : List (List T)) = gX [l.q, l.k, l.v, l.o] := rfl
 rw [hes]
 have hsm : ∀ i, i < 4 → DM (([l.q, l.k, l.v, l.o] : List AR).getD i default) := fun i hi => by
  have hc : i = 0 ∨ i = 1 ∨ i = 2 ∨ i = 3 := by omega
  rcases hc with rfl | rfl | rfl | rfl
  ·exact s3
  ·exact s4
  ·exact s5
  ·exact s6
 have hB : Cm l d = ((List.range 4).all (fun i => BD (([l.q, l.k, l.v, l.o] : List AR).getD i default) d d) && (BD l.up d l.up.rows.length && BD l.down l.up.rows.length d)) := by
  rw [Cm, h1, h2, h3]
  show _ = ((BD l.q d d && (BD l.k d d && (BD l.v d d && (BD l.o d d && true)))) && _)
  simp only [Bool.and_true, Bool.true_and, Bool.and_assoc]
 have hlen : ([l.q, l.k, l.v, l.o] : List AR).length = 4 := rfl
 generalize ([l.q, l.k, l.v, l.o] : List AR) = Ms at *
 refine AJ [1, 2, 5, 37, 38] (fun mm e h' => ∃ (i : Nat), g.le h' ∧ hn g .mk < hn h' .mk ∧ hg h' (hn g .mk) .mk = some ⟨32, C1 F l⟩ ∧ look e 39 .mk = .raw (.int .i64 (i : Nat)) ∧ mm + i = 4 ∧ ∀ j, j < i → BD (Ms.getD j default) d d = true) 4 ?_ ?_
 ·exact ⟨0, L3 _, by simp only [AF]; omega, by simp -dsimp -implicitDefEqProofs only [go_sem, Av], AL, by omega, fun j hj => by omega⟩
 ·rintro mm e h' hks ⟨i, hle, hlt, row, ei, hm, hpre⟩
  simp -dsimp -implicitDefEqProofs only [go_sem, sQ1] at hks
  simp -dsimp -implicitDefEqProofs only [go_sem] at row
  by_cases q1 : (i : Int) < ((4 : Nat) : Int)
  ·have q2 : i < Ms.length := by omega
   have w1 := BE i (by omega)
   refine gJ hks ei q1 q2 ?_
   refine AD (Dx (F := fun j => under (under fL i) j) (m := Ms.getD i default) (hsm i (by omega))) ?_
   rintro _ n3 hn3 rfl
   rw [AB] at hn3
   have hnx : (hn g .mk == hn h' .mk) = false := Cw
   cases q3 : BD (Ms.getD i default) d d
   ·refine zh ?_
    refine ⟨AK (le_push hle) (by rw [AB]; exact hn3), ⟨_, rfl⟩, ?_⟩
    rw [hB, Ed (show i < 4 by omega) q3]; rfl
   ·refine DC w1 ?_
    refine AI (mm - 1) (by omega) AL ⟨i + 1, AK (le_push hle) (by rw [AB]; exact hn3), by simp only [AF]; omega, by simp -dsimp -implicitDefEqProofs only [go_sem, hnx, row], AL, by omega, fun j hj => ?_⟩
    by_cases hji : j = i
    ·subst hji; exact q3
    ·exact hpre j (by omega)
  ·repeat (first | rw [ko] | rw [kr] | simp -dsimp -implicitDefEqProofs only [go_sem, sQ1, hks, ei, row, q1, Av])
   have hall := F9 (n := 4) fun j hj => hpre j (by omega)
   refine AD (Dx (F := fun j => F (j + 22)) (m := l.up) s7) ?_
   rintro _ n3 hn3 rfl
   cases q3 : BD l.up d l.up.rows.length
   ·refine zh ?_
    exact ⟨AK hle hn3, ⟨_, rfl⟩, by rw [hB, hall, q3]; rfl⟩
   repeat (first | rw [ko] | rw [kr] | simp -dsimp -implicitDefEqProofs only [go_sem, sQ1, row, Av])
   refine AD (Dx (F := fun j => F (j + 27)) (m := l.down) s8) ?_
   rintro _ n4 hn4 rfl
   refine zr ?_
   exact ⟨AK (AK hle hn3) hn4, ⟨_, rfl⟩, by rw [hB, hall, q3]; rfl⟩
end Go.Bi
end
section
set_option maxRecDepth 20000
namespace Go.Bi
open Go.Proofs
open Go.Ai (wrap_i64 wrap_u64 wrap_u8)
variable {W0 : World} {P : Program}
set_option maxHeartbeats 4000000
instance : DecidableEq Ae := fun x y => match x, y with
  | ⟨a, b⟩, ⟨c, d⟩ => if h : a = c ∧ b = d then isTrue (by rw [h.1, h.2]) else isFalse (fun e => h (by cases e; exact ⟨rfl, rfl⟩))
theorem Ae.eq_iff {x y : Ae} : x = y ↔ x.a = y.a ∧ x.b = y.b := by
 cases x; cases y; simp
theorem QE {t : TypeId} {x y : Ae} (hT : Go.Ai.intS? P t = some 2) : MV P .eql t (.st [.raw (.int .i64 x.a), .raw (.int .i64 x.b)]) (.st [.raw (.int .i64 y.a), .raw (.int .i64 y.b)]) = some (.raw (.bool (decide (x = y)))) := by
 rw [dQ hT]
 congr 3
 rw [Bool.and_true]
 by_cases h : x = y
 ·rw [decide_eq_true h, h]; simp
 ·rw [decide_eq_false h]
  rw [Ae.eq_iff] at h
  by_cases h1 : x.a = y.a
  ·have h2 : ¬ x.b = y.b := fun e => h ⟨h1, e⟩
   simp [h2]
  ·simp [h1]
def Ob (l : List Int) (i : Nat) : Int := l.getD i 0
theorem Yb {l : List Int} {i : Nat} (h : i < l.length) : (l.map cI)[i]? = some (.raw (.int .i64 (Ob l i))) := by
 rw [List.getElem?_map, List.getElem?_eq_getElem h, Ob, List.getD_eq_getElem?_getD, List.getElem?_eq_getElem h]; rfl
def CG (out : List Int) (t : Int) : Int := if t < 256 then 1 else Ob out (t - 256).toNat
def Ic (l : List Ae) (i : Nat) : Ae := l.getD i default
def outs (l : List Ae) : Nat → List Int
 | 0 => []
 | i + 1 => outs l i ++ [CG (outs l i) (Ic l i).a + CG (outs l i) (Ic l i).b]
theorem Cd {l : List Ae} : ∀ {i : Nat}, (outs l i).length = i
 | 0 => rfl
 | i + 1 => by rw [outs, List.length_append, Cd]; rfl
def Kd (l : List Ae) (i : Nat) : Bool := inI (Ic l i).a 0 (255 + (i : Int)) && inI (Ic l i).b 0 (255 + (i : Int))
def WO (l : List Ae) (i : Nat) : Int := CG (outs l i) (Ic l i).a + CG (outs l i) (Ic l i).b
def Bt (l : List Ae) (i : Nat) : Bool := Kd l i && decide (WO l i ≤ 64)
def IJ (l : List Ae) (i : Nat) : Bool := decide (Ic l i ∈ l.take i)
def CY (l : List Ae) : Bool := decide (l.length ≤ 16) && (List.range l.length).all fun i => Bt l i && !IJ l i
theorem D6 {l : List Ae} {i : Nat} (hi : i < l.length) (h : (Bt l i && !IJ l i) = false) : CY l = false := by
 unfold CY
 rw [Bool.and_eq_false_iff]; right
 rw [List.all_eq_false]
 exact ⟨i, List.mem_range.2 hi, by rw [h]; simp⟩
theorem SN {l : List Ae} (h0 : l.length ≤ 16) (h : ∀ i, i < l.length → (Bt l i && !IJ l i) = true) : CY l = true := by
 unfold CY
 simp only [h0, decide_true, Bool.true_and, List.all_eq_true]
 intro i hi; exact h i (List.mem_range.1 hi)
theorem Ka {l : List Ae} (h : ¬ l.length ≤ 16) : CY l = false := by unfold CY; rw [decide_eq_false h]; rfl
theorem Pj {l : List Ae} : ∀ {i : Nat}, (∀ j, j < i → Bt l j = true) → ∀ k, k < i → 1 ≤ Ob (outs l i) k ∧ Ob (outs l i) k ≤ 64
 | 0, _, k, hk => by omega
 | i + 1, h, k, hk => by
  have ih := Pj (l := l) (i := i) fun j hj => h j (by omega)
  have hs := h i (by omega)
  unfold Bt Kd at hs
  simp only [Bool.and_eq_true, decide_eq_true_eq] at hs
  obtain ⟨⟨ha, hb⟩, hn⟩ := hs
  have ha := inI_t0 ha
  have hb := inI_t0 hb
  have one : ∀ t : Int, 0 ≤ t ∧ t ≤ 255 + (i : Int) → 1 ≤ CG (outs l i) t := fun t ht => by
   unfold CG; split
   ·omega
   ·exact (ih _ (by omega)).1
  have h1 := one _ ha
  have h2 := one _ hb
  rw [outs]
  unfold Ob
  by_cases hki : k < i
  ·rw [List.getD_eq_getElem?_getD, List.getElem?_append_left (by rw [Cd]; exact hki), ← List.getD_eq_getElem?_getD]
   exact ih k hki
  ·obtain rfl : k = i := by omega
   rw [List.getD_eq_getElem?_getD, List.getElem?_append_right (by rw [Cd]; exact Nat.le_refl _), Cd, Nat.sub_self]
   unfold WO at hn
   simp only [List.getElem?_cons_zero, Option.getD_some]
   omega
where
 inI_t0 {x a b : Int} (h : inI x a b = true) : a ≤ x ∧ x ≤ b := by simpa [inI] using h
theorem Bs {x a b : Int} (h : inI x a b = true) : a ≤ x ∧ x ≤ b := by simpa [inI] using h
theorem K1 {l : List Ae} {i : Nat} {t : Int} (h : ∀ j, j < i → Bt l j = true) (ht : 0 ≤ t ∧ t ≤ 255 + (i : Int)) : 1 ≤ CG (outs l i) t ∧ CG (outs l i) t ≤ 64 := by
 unfold CG; split
 ·omega
 ·exact Pj h _ (by omega)
theorem UB {f : AQ} {F : Nat → AQ} {l : List Ae} {m : Ae} {g : H2} (hl : l.length ≤ 1048576) : PW Tryz.prog W0 212 [.sl f 2 (AY l), .st (IX F m)] g (fun y => ∃ k : Int, y = .raw (.int .i64 k) ∧ (0 ≤ k ↔ m ∈ l)) := by
 have hT : Go.Ai.intS? Tryz.prog 165 = some 2 := by kernel_rfl
 refine PW.scalar ?_
 refine AH [[0, 1], [0, 3], [0, 3, 7, 8], [0, 3, 7, 8], [0, 3, 5, 7, 8], [5], [0, 3, 7, 8], []] Tryz.func212 rfl (rs := [.tmp 4]) rfl rfl ?_
 intro wf
 refine zr ?_
 refine AJ [0, 3, 7] (fun s e h' => ∃ i : Nat, h' = g.push ⟨2, IX F m⟩ ∧ look e 8 .mk = .raw (.int .i64 (i : Nat)) ∧ s + i = l.length ∧ ∀ j, j < i → Ic l j ≠ m) l.length ?_ ?_
 ·exact ⟨0, rfl, AL, by omega, fun j hj => by omega⟩
 ·rintro s e h' hks ⟨i, rfl, e8, hsi, hpre⟩
  simp -dsimp -implicitDefEqProofs only [go_sem, sQ1] at hks
  by_cases h1 : (i : Int) < (l.length : Int)
  ·have hi : i < l.length := by omega
   have hE := QE (x := m) (y := l.getD i default) hT
   refine DH hks e8 h1 ?_
   refine AO [(0, []), (1, []), (2, []), (3, []), (4, []), (5, [])] (by kernel_rfl) ?_
   by_cases hm : m = l.getD i default
   ·repeat (first | rw [ko] | rw [kr] | simp -dsimp -implicitDefEqProofs only [go_sem, sQ1, sQ2, sQ3, hi, Av, hE, decide_eq_true hm])
    refine ⟨le_push (H2.le.refl _), ⟨_, rfl⟩, _, rfl, ⟨fun _ => by rw [hm]; exact BG hi, fun _ => by omega⟩⟩
   ·repeat (first | rw [ko] | rw [kr] | simp -dsimp -implicitDefEqProofs only [go_sem, sQ1, sQ2, sQ3, hi, Av, hE, decide_eq_false hm, AU hi (by omega)])
    refine AI (s - 1) (by omega) AL ⟨i + 1, rfl, AL, by omega, fun j hj => ?_⟩
    by_cases hji : j = i
    ·subst hji; exact fun e => hm e.symm
    ·exact hpre j (by omega)
  ·refine DH hks e8 h1 ?_
   refine ⟨le_push (H2.le.refl _), ⟨_, rfl⟩, _, rfl, by
    refine ⟨fun h => absurd h (by decide), fun hm => ?_⟩
    obtain ⟨j, hj, e⟩ := List.getElem_of_mem hm
    refine absurd ?_ (hpre j (by omega))
    rw [Ic, List.getD_eq_getElem?_getD, List.getElem?_eq_getElem hj]; exact e⟩
theorem PL {f : AQ} {F : Nat → AQ} {l : List Ae} {m : Ae} {g : H2} (hl : l.length ≤ 1048576) : PW Tryz.prog W0 170 [.sl f 2 (AY l), .st (IX F m)] g (fun y => y = .raw (.bool (decide (m ∈ l)))) := by
 refine PW.scalar ?_
 refine AH [[0, 1], [0, 3]] Tryz.func170 rfl (rs := [.tmp 4]) rfl rfl ?_
 intro wf
 refine zr ?_
 refine AD (UB (F := F) hl) ?_
 rintro _ n hn' ⟨k, rfl, hk⟩
 have hd : decide (0 ≤ k) = decide (m ∈ l) := decide_eq_decide.2 hk
 refine A1 hd ?_
 exact ⟨AK (le_push (H2.le.refl _)) hn', ⟨_, rfl⟩, rfl⟩
theorem Lm {x k : Int} {h : H2} (hk : 0 ≤ k ∧ k ≤ 1048576) : A7 Tryz.prog W0 60 [.raw (.int .i64 x), .raw (.int .i64 k)] h (fun v h' => v = .raw (.bool (inI x 0 (255 + k))) ∧ h' = h) := by
 refine AH [[0, 1], [0, 1]] Tryz.func60 rfl (rs := [.tmp 4]) rfl rfl ?_
 intro wf
 have w : IntKind.i64.wrap (255 + k) = 255 + k := by rw [wrap_i64] <;> omega
 refine A1 w ?_
 refine AA BQ ?_
 rintro _ h' ⟨rfl, rfl⟩
 refine zr ?_
 exact ⟨rfl, rfl⟩
theorem KK {l : List Ae} {i b N : Nat} {v : X} {t : Int} {g : H2} (hb : hg g b .mk = some ⟨1, [v]⟩) (ho : Al N g v (outs l i)) (ht : 0 ≤ t ∧ t ≤ 255 + (i : Int)) (hi : i ≤ 1048576) : A7 Tryz.prog W0 213 [.raw (.int .i64 t), .raw (.pointer (some ⟨b, 0, none⟩))] g (fun y g' => y = .raw (.int .i64 (CG (outs l i) t)) ∧ g' = g) := by
 refine AH [[0, 1], [0, 1], [], [0, 1]] Tryz.func213 rfl (rs := [.tmp 3]) rfl rfl ?_
 intro wf
 unfold CG
 by_cases h1 : t < 256
 ·refine A1 h1 ?_
  exact ⟨by rw [if_pos h1], rfl⟩
 ·have w : IntKind.i64.wrap (t - 256) = t - 256 := by rw [wrap_i64] <;> omega
  obtain ⟨k, hk⟩ := Int.eq_ofNat_of_zero_le (a := t - 256) (by omega)
  rw [hk]
  have w2 : IntKind.i64.wrap (t - 256) = (k : Int) := by rw [w, hk]
  have hk2 : k < (outs l i).length := by rw [Cd]; omega
  have i0 : (0 : Int) ≤ (k : Int) ∧ (k : Int) < ((outs l i).length : Int) := by omega
  have e0 := Yb hk2
  obtain ⟨q, rfl, q1, q2, q3⟩ : ∃ q, v = .raw (.slice (some ⟨q, 0, none⟩) (outs l i).length (outs l i).length) ∧ N ≤ q ∧ q < hn g .mk ∧ hg g q .mk = some ⟨1, (outs l i).map cI⟩ := by
   obtain ⟨_, h | h⟩ := ho
   ·exact absurd h.2 (by omega)
   ·exact h
  refine PY h1 hb w2 i0 q3 e0 ?_
  exact ⟨by rw [if_neg h1, Int.toNat_natCast], rfl⟩
end Go.Bi
end
section
set_option maxRecDepth 20000
namespace Go.Bi
open Go.Proofs
open Go.Ai (wrap_i64 wrap_u64 wrap_u8)
variable {W0 : World} {P : Program}
set_option maxHeartbeats 4000000
theorem Nu {D : Nat → Option (List Nat)} {g : H2} {K : KT} {t u U y N : Nat} {xs : List Int} {x : X} {f : AQ} {s : Int} (he : Go.Ai.elt? P t = some (U, 1, y)) (hz : Go.Ai.zr? P U = some [.int .i64 0]) (hu : Go.Ai.cls? P u = some .sl)
    (hx : Al N g x xs) (hN0 : N ≤ hn g .mk) (hn0 : (xs.length + 1) * (y + 1) ≤ Go.Ai.most)
    (hk : ∀ v' g', Al N g' v' (xs ++ [s]) → hn g .mk ≤ hn g' .mk → (∀ g0 : H2, hn g0 .mk ≤ N → g0.le g → g0.le g') → (∀ c, c < hn g .mk → AP x ≠ some c → hg g' c .mk = hg g c .mk) → (∀ c, AP v' = some c → hn g .mk ≤ c) → kz K v' g' .mk) :
    az (EN P g .append [t, u] [x, .sl f 1 [[.v (.int .i64 s)]]] .mk) K .mk := by
  have hlen0 := hx.1
  obtain ⟨_, hcase⟩ := hx
  have key : ∀ a, x = .raw (.slice a xs.length xs.length) → EN P g .append [t, u] [x, .sl f 1 [[.v (.int .i64 s)]]] .mk = (match a with
        | none => some (.raw (.slice (some ⟨g.n, 0, none⟩) 1 1), g.push ⟨0 + 1, [cI s]⟩)
        | some a => match g.get a.block with
          | some k => if k.z = 0 + 1 ∧ a.off = 0 then (Jl k.cs 0 (xs.length * (0 + 1))).map fun olds => (.raw (.slice (some ⟨g.n, 0, none⟩) (xs.length + 1) (xs.length + 1)), (g.kill a.block).push ⟨0 + 1, olds ++ [cI s]⟩) else none
          | none => none) := by
    intro a ha
    subst ha
    have hs : E0 g (0 + 1) (.sl f 1 [[.v (.int .i64 s)]]) = some (1, [cI s]) := rfl
    simp only [EN, B1, hu, Gb, he, hs, hz]
    rw [if_pos ⟨rfl, hn0, rfl⟩, if_neg (by decide)]
    cases a <;> rfl
  rcases hcase with ⟨rfl, h0⟩ | ⟨b, rfl, hNb, hbn, hb⟩
  · have hxs : xs = [] := List.eq_nil_of_length_eq_zero h0
    subst hxs
    rw [key none rfl]
    refine hk _ _ ⟨rfl, .inr ⟨g.n, rfl, hN0, ?_, ?_⟩⟩ ?_ ?_ ?_ ?_
    · rw [AB]; exact Nat.lt_succ_self _
    · rw [Ap, show (g.n == hn g .mk) = true by simp [hn]]; rfl
    · rw [AB]; omega
    · intro g0 _ l0; exact le_push l0
    · intro b' hb' _
      rw [Ap, show (b' == hn g .mk) = false by simp; omega]; rfl
    · intro c hc; simp only [AP, Option.some.injEq] at hc; unfold hn; omega
  · have hb' : g.get b = some ⟨1, xs.map cI⟩ := hb
    rw [key _ rfl]
    simp only [hb']
    rw [if_pos ⟨trivial, trivial⟩, Gi (by simp)]
    have hne : (b == hn g .mk) = false := Cw
    refine hk _ _ ⟨by simp, .inr ⟨g.n, by simp, ?_, ?_, ?_⟩⟩ ?_ ?_ ?_ ?_
    · unfold hn at hbn; omega
    · rw [AB, Bh]; exact Nat.lt_succ_self _
    · rw [Ap, Bh, show (g.n == hn g .mk) = true by simp [hn]]; simp [YJ]
    · rw [AB, Bh]; omega
    · intro g0 hN l0; exact le_push (JF l0 (by omega))
    · intro b' hb2 hne'
      have hbb : (b' == b) = false := by
        have : ¬ b' = b := fun e => hne' (by rw [e]; rfl)
        simp [this]
      rw [Ap, Bh, show (b' == hn g .mk) = false by simp; omega, FB, FO, hbb]; rfl
    · intro c hc; simp only [AP, Option.some.injEq] at hc; unfold hn; omega
theorem AT {N : Nat} {g : H2} {v : X} {zs : List Int} (o : Al N g v zs) : A3 v = some [v] ∧ FC v = true ∧ Bg v = false := by
 obtain ⟨_, h⟩ := o
 rcases h with ⟨rfl, _⟩ | ⟨b, rfl, _⟩ <;> exact ⟨rfl, rfl, rfl⟩
theorem RM {N : Nat} {g g' : H2} {v : X} {zs : List Int} (o : Al N g v zs) (hn' : hn g .mk ≤ hn g' .mk) (hk : ∀ c, AP v = some c → c < hn g .mk → hg g' c .mk = hg g c .mk) : Al N g' v zs := by
 obtain ⟨h0, h⟩ := o
 refine ⟨h0, h.imp_right ?_⟩
 rintro ⟨b, e1, e2, e3, e4⟩
 exact ⟨b, e1, e2, Nat.lt_of_lt_of_le e3 hn', by rw [hk b (by rw [e1]; rfl) e3]; exact e4⟩
theorem Rb {f : AQ} {l : List Ae} {g : H2} (hl : l.length ≤ 16) : A7 Tryz.prog W0 171 [.sl f 2 (AY l)] g (fun x g' => g.le g' ∧ ∃ v, x = .tp [v, .raw (.bool ((List.range l.length).all (Bt l)))] ∧ Bg v = false) := by
 have bad : ∀ i, i < l.length → Bt l i = false → (List.range l.length).all (Bt l) = false := fun i hi h => by
  rw [List.all_eq_false]; exact ⟨i, List.mem_range.2 hi, by rw [h]; simp⟩
 refine AH [[0], [0], [0, 4], [0, 4, 5], [4, 5, 11, 12, 13], [4, 5, 11, 12, 13], [4, 5, 6, 7, 11, 12, 13], [], [4, 5, 7, 11, 12, 13], [4, 5, 8, 11, 12, 13], [], [4, 5, 8, 11, 12, 13], [4, 5, 11, 12, 13], [4]] Tryz.func171 rfl (rs := [.tmp 2, .tmp 3]) rfl rfl ?_
 intro wf
 refine zr ?_
 refine AJ [4, 5, 11, 12] (fun m e h' => ∃ (i : Nat) (v : X), look e 13 .mk = .raw (.int .i64 (i : Nat)) ∧ m + i = l.length ∧ hg h' (hn g .mk + 1) .mk = some ⟨1, [v]⟩ ∧ Al (hn g .mk) h' v (outs l i) ∧ (∀ c, AP v = some c → c ≠ hn g .mk + 1) ∧ g.le h' ∧ hn g .mk + 2 ≤ hn h' .mk ∧ ∀ j, j < i → Bt l j = true) l.length ?_ ?_
 ·exact ⟨0, .raw (.slice (some ⟨hn g .mk, 0, none⟩) 0 0), AL, by omega, by simp -dsimp -implicitDefEqProofs only [go_sem, Av], ⟨rfl, .inr ⟨hn g .mk, rfl, Nat.le_refl _, by simp -dsimp -implicitDefEqProofs only [go_sem] <;> omega, by simp -dsimp -implicitDefEqProofs only [go_sem, Av] <;> rfl⟩⟩, fun c hc => by simp only [AP, Option.some.injEq] at hc; omega, CF (le_push (le_push (H2.le.refl _))) (by omega), by simp -dsimp -implicitDefEqProofs only [go_sem, sQ3] <;> omega, fun j hj => by omega⟩
 ·rintro m e h' hks ⟨i, v, e13, hm, hbox, ow, hap, hle, hnn, hpre⟩
  simp -dsimp -implicitDefEqProofs only [go_sem, sQ1] at hks
  by_cases h1 : (i : Int) < (l.length : Int)
  ·have hi : i < l.length := by omega
   refine gJ hks e13 h1 hi ?_
   have hmi : l.getD i default = Ic l i := rfl
   rw [hmi]
   have hne : (hn g .mk + 1 == hn h' .mk) = false := Cw
   have hb1 : hg (h'.push ⟨2, [.raw (.int .i64 (Ic l i).a), .raw (.int .i64 (Ic l i).b)]⟩) (hn g .mk + 1) .mk = some ⟨1, [v]⟩ := by rw [Ap, hne]; exact hbox
   have ow1 := Al.keep ow (le_push (k := ⟨2, [.raw (.int .i64 (Ic l i).a), .raw (.int .i64 (Ic l i).b)]⟩) (H2.le.refl _))
   have le1 := le_push (k := ⟨2, [.raw (.int .i64 (Ic l i).a), .raw (.int .i64 (Ic l i).b)]⟩) hle
   refine AA (Lm ⟨by omega, by omega⟩) ?_
   rintro _ h2 ⟨rfl, rfl⟩
   cases ha : inI (Ic l i).a 0 (255 + (i : Int))
   ·refine zr ?_
    exact ⟨le1, _, by rw [bad i hi (by unfold Bt Kd; rw [ha]; rfl)], rfl⟩
   refine zh ?_
   refine AA (Lm ⟨by omega, by omega⟩) ?_
   rintro _ h2 ⟨rfl, rfl⟩
   cases hb : inI (Ic l i).b 0 (255 + (i : Int))
   ·refine zr ?_
    exact ⟨le1, _, by rw [bad i hi (by unfold Bt Kd; rw [ha, hb]; rfl)], rfl⟩
   have r1 := K1 hpre (Bs ha)
   have r2 := K1 hpre (Bs hb)
   have wn : IntKind.i64.wrap (CG (outs l i) (Ic l i).a + CG (outs l i) (Ic l i).b) = WO l i := by unfold WO; rw [wrap_i64] <;> omega
   refine zh ?_
   refine AO [(0, []), (1, []), (2, []), (4, []), (5, []), (6, []), (3, [6]), (7, []), (8, []), (9, [])] (by kernel_rfl) ?_
   refine zh ?_
   refine AA (KK hb1 ow1 (Bs ha) (by omega)) ?_
   rintro _ h2 ⟨rfl, rfl⟩
   rw [kq]
   refine ⟨by simp -dsimp -implicitDefEqProofs only [go_sem, Av], ?_⟩
   refine zr ?_
   refine AA (KK hb1 ow1 (Bs hb) (by omega)) ?_
   rintro _ h2 ⟨rfl, rfl⟩
   refine A1 wn ?_
   by_cases hn64 : 64 < WO l i
   ·refine A1 hn64 ?_
    exact ⟨le1, _, by rw [bad i hi (by unfold Bt; rw [decide_eq_false (by omega : ¬ WO l i ≤ 64), Bool.and_false])], rfl⟩
   refine C5 hn64 hb1 ?_
   have hst : Bt l i = true := by
    unfold Bt Kd
    rw [ha, hb, decide_eq_true (by omega : WO l i ≤ 64)]; rfl
   refine Nu (P := Tryz.prog) (D := fun _ => none) (N := hn g .mk) Go.Ai.ty_el25 Go.Ai.ty_zr3 Go.Ai.ty_cl25 (Al.keep ow1 (HO (H2.le.refl _))) (by rw [AF, AB]; omega) (by rw [Cd]; have : Go.Ai.most = 1099511627776 := rfl; omega) ?_
   intro v4 g4 ow4 nn4 le4 on4 ap4
   simp only [AF, AB] at nn4 ap4
   have hbox4 : hg g4 (hn g .mk + 1) .mk = some ⟨1, [v]⟩ := (on4 _ (by rw [AF, AB]; omega) (fun e => hap _ e rfl)).trans hb1
   have oc := AT ow4
   repeat (first | rw [ko] | rw [kr] | simp -dsimp -implicitDefEqProofs only [go_sem, sQ1, hbox4, oc, Av, AU hi (by omega)])
   refine AI (m - 1) (by omega) AL ⟨i + 1, v4, AL, by omega, by simp -dsimp -implicitDefEqProofs only [go_sem, Av], ?_, fun c hc => by have := ap4 c hc; omega, CF (le4 g (Nat.le_refl _) (HO le1)) (by omega), by simp -dsimp -implicitDefEqProofs only [go_sem] <;> omega, fun j hj => ?_⟩
   ·rw [outs]
    exact RM ow4 (by rw [AG]; omega) fun c hc _ => by
     have := ap4 c hc
     rw [BA, show (c == hn g .mk + 1) = false by simp; omega]; rfl
   ·by_cases hji : j = i
    ·subst hji; exact hst
    ·exact hpre j (by omega)
  ·refine Cu hks e13 h1 hbox ?_
   have oc := AT ow
   have hall : (List.range l.length).all (Bt l) = true := by
    rw [List.all_eq_true]; intro j hj; exact hpre j (by have := List.mem_range.1 hj; omega)
   rw [hall]
   refine A1 oc ?_
   exact ⟨hle, v, rfl, oc.2.2⟩
end Go.Bi
end
section
set_option maxRecDepth 20000
namespace Go.Bi
open Go.Proofs
open Go.Ai (wrap_i64 wrap_u64 wrap_u8)
variable {W0 : World} {P : Program}
set_option maxHeartbeats 4000000
theorem ZD {l : List Ae} {i : Nat} : (AY l).take i = AY (l.take i) := by simp [AY, List.map_take]
theorem Kj {f : AQ} {l : List Ae} {g : H2} (hl0 : l.length ≤ 1048576) : PW Tryz.prog W0 119 [.sl f 2 (AY l)] g (fun y => y = .raw (.bool (CY l))) := by
 refine PW.scalar ?_
 refine AH [[0], [0], [], [0], [0, 10, 11, 12], [0, 10, 11, 12], [0, 3, 4, 10, 11, 12], [], [0, 10, 11, 12], [0], [6]] Tryz.func119 rfl (rs := [.tmp 2]) rfl rfl ?_
 intro wf
 by_cases h16 : (16 : Int) < (l.length : Int)
 ·refine A1 h16 ?_
  exact ⟨H2.le.refl _, ⟨_, rfl⟩, by rw [Ka (by omega)]⟩
 refine A1 h16 ?_
 refine AJ [0, 10, 11] (fun m e h' => ∃ (i : Nat), look e 12 .mk = .raw (.int .i64 (i : Nat)) ∧ m + i = l.length ∧ g.le h' ∧ ∀ j, j < i → IJ l j = false) l.length ?_ ?_
 ·exact ⟨0, AL, by omega, H2.le.refl _, fun j hj => by omega⟩
 ·rintro m e h' hks ⟨i, e12, hm, hle, hpre⟩
  simp -dsimp -implicitDefEqProofs only [go_sem, sQ1] at hks
  by_cases h1 : (i : Int) < (l.length : Int)
  ·have hi : i < l.length := by omega
   have hi0 : (0 : Int) ≤ (i : Int) := by omega
   have hi1 : (i : Int) ≤ (l.length : Int) := by omega
   refine gJ hks e12 h1 hi ?_
   refine AO [(0, []), (1, []), (2, []), (3, []), (4, [])] (by kernel_rfl) ?_
   repeat (first | rw [ko] | rw [kr] | simp -dsimp -implicitDefEqProofs only [go_sem, sQ1, Av, hi0, hi1, ZD, Nat.sub_zero, List.drop_zero])
   refine AD (PL (F := fun _ _ => undef) (m := l.getD i default) (by rw [List.length_take]; omega)) ?_
   rintro _ n hn' rfl
   have hle2 := AK (le_push (k := ⟨2, [.raw (.int .i64 (l.getD i default).a), .raw (.int .i64 (l.getD i default).b)]⟩) hle) hn'
   have hdd : decide (l.getD i default ∈ l.take i) = IJ l i := rfl
   rw [hdd]
   cases hd : IJ l i
   ·repeat (first | rw [ko] | rw [kr] | simp -dsimp -implicitDefEqProofs only [go_sem, sQ1, AU hi (by omega)])
    refine AI (m - 1) (by omega) AL ⟨i + 1, AL, by omega, hle2, fun j hj => ?_⟩
    by_cases hji : j = i
    ·subst hji; exact hd
    ·exact hpre j (by omega)
   ·refine zr ?_
    exact ⟨hle2, ⟨_, rfl⟩, by rw [D6 hi (by rw [hd, Bool.not_true, Bool.and_false])]⟩
  ·refine DH hks e12 h1 ?_
   refine AA (Rb (by omega)) ?_
   rintro _ g2 ⟨l2, v, rfl, hv⟩
   refine zr ?_
   refine ⟨hle.trans l2, ⟨_, rfl⟩, ?_⟩
   have hd : ∀ j, j < l.length → IJ l j = false := fun j hj => hpre j (by omega)
   congr 2
   unfold CY
   rw [decide_eq_true (by omega : l.length ≤ 16), Bool.true_and]
   cases ha : (List.range l.length).all (Bt l)
   ·symm
    rw [List.all_eq_false] at ha ⊢
    obtain ⟨j, h3, h4⟩ := ha
    refine ⟨j, h3, ?_⟩
    simp only [Bool.not_eq_true] at h4
    rw [h4]; simp
   ·symm
    rw [List.all_eq_true] at ha ⊢
    intro j hj
    rw [ha j hj, hd j (List.mem_range.1 hj)]; rfl
theorem Gt {f : AQ} {l : List Ae} {g : H2} (hl0 : l.length ≤ 1048576) : PW Tryz.prog W0 99 [.sl f 2 (AY l)] g (fun y => y = .raw (.bool (CY l))) := by
  have hT : Go.Ai.intS? Tryz.prog 165 = some 2 := by kernel_rfl
  refine PW.scalar ?_
  refine AH [[0], [0], [], [0], [0, 3], [0, 3, 4], [0, 3, 4], [0, 3, 4], [], [0, 3, 4], [0, 3, 4, 5], [0, 3, 4, 5, 6], [0, 3, 4, 5, 6], [0, 3, 4, 5, 6], [0, 3, 4, 5, 6, 7], [0, 3, 4, 5, 6], [0, 3, 4, 5, 6, 7], [0, 3, 4, 5, 6], [0, 3, 4, 5, 6, 7], [0, 3, 4, 5], [0, 3, 4, 5, 8], [0, 3, 4, 5, 8], [0, 3, 4, 5, 8], [], [0, 3, 4, 5], [], [0, 3, 4, 5], []] Tryz.func99 rfl (rs := [.tmp 2]) rfl rfl ?_
  intro wf
  by_cases h16 : (16 : Int) < (l.length : Int)
  · refine A1 h16 ?_
    exact ⟨H2.le.refl _, ⟨_, rfl⟩, by rw [Ka (by omega)]⟩
  refine A1 h16 ?_
  refine AJ [0] (fun m e h' => ∃ (i : Nat) (v : X), look e 4 .mk = .raw (.int .i64 (i : Nat)) ∧ look e 3 .mk = v ∧ m + i = l.length ∧ g.le h' ∧ Al (hn g .mk) h' v (outs l i) ∧ ∀ j, j < i → (Bt l j && !IJ l j) = true) l.length ?_ ?_
  · exact ⟨0, _, AL, by simp -dsimp -implicitDefEqProofs only [go_sem] <;> rfl, by omega, le_push (H2.le.refl _), Own.new (Nat.le_refl _) rfl, fun j hj => by omega⟩
  · rintro m e h' hks ⟨i, v, e4, e3, hm, hle, ow, hpre⟩
    simp -dsimp -implicitDefEqProofs only [go_sem] at hks
    have hst : ∀ j, j < i → Bt l j = true := fun j hj => by have := hpre j hj; rw [Bool.and_eq_true] at this; exact this.1
    by_cases h1 : (i : Int) < (l.length : Int)
    · have hi : i < l.length := by omega
      have w1 : IntKind.i64.wrap (255 + (i : Int)) = 255 + (i : Int) := by rw [wrap_i64] <;> omega
      have hmi : l.getD i default = Ic l i := rfl
      refine iE hks e4 e3 h1 hi w1 ?_
      rw [hmi]
      refine AA Ab ?_
      rintro _ hx ⟨rfl, hxe⟩
      rw [hxe]
      clear hxe hx
      cases ha : inI (Ic l i).a 0 (255 + (i : Int))
      · refine zr ?_
        exact ⟨hle, ⟨_, rfl⟩, by rw [D6 hi (by unfold Bt Kd; rw [ha]; rfl)]⟩
      refine bW hi w1 hmi ?_
      refine AA Ab ?_
      rintro _ hx ⟨rfl, hxe⟩
      rw [hxe]
      clear hxe hx
      cases hb : inI (Ic l i).b 0 (255 + (i : Int))
      · refine zr ?_
        exact ⟨hle, ⟨_, rfl⟩, by rw [D6 hi (by unfold Bt Kd; rw [ha, hb]; rfl)]⟩
      refine zr ?_
      have r1 := K1 hst (Bs ha)
      have r2 := K1 hst (Bs hb)
      have hat : ∀ t : Int, 0 ≤ t ∧ t ≤ 255 + (i : Int) → ¬ t < 256 → ∃ (q k : Nat), v = .raw (.slice (some ⟨q, 0, none⟩) i i) ∧ hg h' q .mk = some ⟨1, (outs l i).map cI⟩ ∧ IntKind.i64.wrap (t - 256) = (k : Int) ∧ k < i ∧ Ob (outs l i) k = CG (outs l i) t := fun t ht hn => by
        obtain ⟨k, hk⟩ := Int.eq_ofNat_of_zero_le (a := t - 256) (by omega)
        obtain ⟨_, h | ⟨q, q1, q2, q3, q4⟩⟩ := ow
        · rw [Cd] at h; omega
        · rw [Cd] at q1
          refine ⟨q, k, q1, q4, by rw [wrap_i64] <;> omega, by omega, ?_⟩
          unfold CG
          rw [if_neg hn, hk, Int.toNat_natCast]
      let nk : Nat → Int := fun k => if k = 0 then 0 else if k = 1 then CG (outs l i) (Ic l i).a else WO l i
      refine H4 2 [0, 3, 4] (fun m e h2 => ∃ k : Nat, look e 6 .mk = .raw (.int .i64 (k : Nat)) ∧ look e 5 .mk = .raw (.int .i64 (nk k)) ∧ m + k = 2 ∧ h2 = h') (fun e h2 => look e 5 .mk = .raw (.int .i64 (WO l i)) ∧ h2 = h') 2 ?_ ?_ ?_
      · exact ⟨0, AL, by simp -dsimp -implicitDefEqProofs only [go_sem] <;> rfl, by omega, rfl⟩
      · rintro m2 e2 h2 hks2 ⟨k, e6, e5, hm2, hxe⟩
        simp -dsimp -implicitDefEqProofs only [go_sem, sQ1] at hks2
        rw [hxe]
        clear hxe
        by_cases hk2 : (k : Int) < 2
        · have hk3 : k = 0 ∨ k = 1 := by omega
          rcases hk3 with rfl | rfl
          · have z1 : ¬ (0 : Int) = 1 := by omega
            replace hk2 : (0 : Int) < 2 := by omega
            have w2 : IntKind.i64.wrap ((0 : Int) + 1) = 1 := by decide
            have w2' : IntKind.i64.wrap (1 : Int) = 1 := by decide
            by_cases h256 : (Ic l i).a < 256
            · have wa : IntKind.i64.wrap (nk 0 + 1) = nk 1 := by show IntKind.i64.wrap (0 + 1) = CG _ _; unfold CG; rw [if_pos h256]; decide
              repeat (first | rw [ko] | rw [kr] | simp -dsimp -implicitDefEqProofs only [go_sem, sQ1, sQ2, sQ3, hks2, e6, e5, hk2, hi, hmi, z1, h256, wa, w2])
              exact AI (m2 - 1) (by omega) AL ⟨1, (by simp -dsimp -implicitDefEqProofs only [go_sem] <;> rfl), (by simp -dsimp -implicitDefEqProofs only [go_sem, sQ1] <;> rfl), by omega, rfl⟩
            · obtain ⟨q, k, rfl, q1, q2, q3, q4⟩ := hat _ (Bs ha) h256
              have wa : IntKind.i64.wrap (nk 0 + Ob (outs l i) k) = nk 1 := by show IntKind.i64.wrap (0 + _) = CG _ _; rw [q4, wrap_i64] <;> omega
              have i0 : (0 : Int) ≤ (k : Int) ∧ (k : Int) < (i : Int) := by omega
              have e0 := Yb (l := outs l i) (i := k) (by rw [Cd]; exact q3)
              repeat (first | rw [ko] | rw [kr] | simp -dsimp -implicitDefEqProofs only [go_sem, sQ1, sQ2, sQ3, hks2, e6, e5, hk2, hi, hmi, z1, h256, q2, q1, i0, e0, wa, w2])
              exact AI (m2 - 1) (by omega) AL ⟨1, (by simp -dsimp -implicitDefEqProofs only [go_sem] <;> rfl), (by simp -dsimp -implicitDefEqProofs only [go_sem, sQ1] <;> rfl), by omega, rfl⟩
          · have z1 : ((1 : Nat) : Int) = 1 := rfl
            have w2 : IntKind.i64.wrap ((1 : Int) + 1) = 2 := by decide
            have w2' : IntKind.i64.wrap (2 : Int) = 2 := by decide
            by_cases h256 : (Ic l i).b < 256
            · have wa : IntKind.i64.wrap (nk 1 + 1) = nk 2 := by
                show IntKind.i64.wrap (CG _ _ + 1) = CG _ _ + CG _ _
                have : CG (outs l i) (Ic l i).b = 1 := by unfold CG; rw [if_pos h256]
                rw [this, wrap_i64] <;> omega
              refine fR hks2 e6 e5 hi hmi z1 h256 wa w2 ?_
              exact AI (m2 - 1) (by omega) AL ⟨2, (by simp -dsimp -implicitDefEqProofs only [go_sem] <;> rfl), (by simp -dsimp -implicitDefEqProofs only [go_sem, sQ1] <;> rfl), by omega, rfl⟩
            · obtain ⟨q, k, rfl, q1, q2, q3, q4⟩ := hat _ (Bs hb) h256
              have wa : IntKind.i64.wrap (nk 1 + Ob (outs l i) k) = nk 2 := by show IntKind.i64.wrap (CG _ _ + _) = CG _ _ + CG _ _; rw [q4, wrap_i64] <;> omega
              have i0 : (0 : Int) ≤ (k : Int) ∧ (k : Int) < (i : Int) := by omega
              have e0 := Yb (l := outs l i) (i := k) (by rw [Cd]; exact q3)
              repeat (first | rw [ko] | rw [kr] | simp -dsimp -implicitDefEqProofs only [go_sem, sQ1, sQ2, sQ3, sQ6, hks2, e6, e5, hi, hmi, z1, h256, q2, q1, i0, e0, wa, w2])
              exact AI (m2 - 1) (by omega) AL ⟨2, (by simp -dsimp -implicitDefEqProofs only [go_sem] <;> rfl), (by simp -dsimp -implicitDefEqProofs only [go_sem, sQ1] <;> rfl), by omega, rfl⟩
        · have : k = 2 := by omega
          subst this
          refine Cu hks2 e6 e5 hk2 ?_
          exact Er AL ⟨by simp -dsimp -implicitDefEqProofs only [go_sem, sQ1] <;> rfl, rfl⟩
      · rintro e2 h2 hks2 ⟨e5, hxe⟩
        simp -dsimp -implicitDefEqProofs only [go_sem, sQ1] at hks2
        rw [hxe]
        clear hxe
        refine C5 hks2 e5 ?_
        refine H4 4 [0, 3, 4, 5] (fun m e h2 => ∃ k : Nat, look e 8 .mk = .raw (.int .i64 (k : Nat)) ∧ m + k = i ∧ h2 = h' ∧ ∀ j, j < k → Ic l j ≠ Ic l i) (fun e h2 => h2 = h' ∧ IJ l i = false) i ?_ ?_ ?_
        · exact ⟨0, AL, by omega, rfl, fun j hj => by omega⟩
        · rintro m3 e3' h3 hks3 ⟨k, e8, hm3, hxe, hne⟩
          simp -dsimp -implicitDefEqProofs only [go_sem, sQ1] at hks3
          rw [hxe]
          clear hxe
          by_cases hk : (k : Int) < (i : Int)
          · have hkl : k < l.length := by omega
            have hE := QE (x := l.getD k default) (y := l.getD i default) hT
            repeat (first | rw [ko] | rw [kr] | simp -dsimp -implicitDefEqProofs only [go_sem, sQ1, hks3, e8, hk])
            refine AO [(0, []), (1, []), (2, []), (3, []), (4, []), (5, []), (6, []), (7, []), (8, [])] (by kernel_rfl) ?_
            by_cases heq : l.getD k default = l.getD i default
            · repeat (first | rw [ko] | rw [kr] | simp -dsimp -implicitDefEqProofs only [go_sem, sQ1, sQ2, sQ3, hkl, hi, Av, hE, decide_eq_true heq])
              refine ⟨hle, ⟨_, rfl⟩, by rw [D6 hi]; rw [show IJ l i = true from decide_eq_true ?_, Bool.not_true, Bool.and_false]; rw [Ic, ← heq, List.mem_take_iff_getElem]; exact ⟨k, by omega, by rw [List.getD_eq_getElem?_getD, List.getElem?_eq_getElem hkl]; rfl⟩⟩
            · repeat (first | rw [ko] | rw [kr] | simp -dsimp -implicitDefEqProofs only [go_sem, sQ1, sQ2, sQ3, hkl, hi, Av, hE, decide_eq_false heq, AU hkl (by omega)])
              refine AI (m3 - 1) (by omega) AL ⟨k + 1, AL, by omega, rfl, fun j hj => ?_⟩
              by_cases hjk : j = k
              · subst hjk; exact heq
              · exact hne j (by omega)
          · repeat (first | rw [ko] | rw [kr] | simp -dsimp -implicitDefEqProofs only [go_sem, sQ1, hks3, e8, hk])
            refine Er AL ⟨rfl, decide_eq_false fun hm => ?_⟩
            rw [List.mem_take_iff_getElem] at hm
            obtain ⟨j, hj, e⟩ := hm
            refine hne j (by omega) ?_
            rw [← e, Ic, List.getD_eq_getElem?_getD, List.getElem?_eq_getElem (by omega)]; rfl
        · rintro e4' h4 hks4 ⟨hxe, hdup⟩
          simp -dsimp -implicitDefEqProofs only [go_sem, sQ1] at hks4
          rw [hxe]
          clear hxe
          by_cases h64 : 64 < WO l i
          · refine C5 hks4 h64 ?_
            exact ⟨hle, ⟨_, rfl⟩, by rw [D6 hi (by unfold Bt; rw [decide_eq_false (by omega : ¬ WO l i ≤ 64), Bool.and_false]; rfl)]⟩
          have hsi : Bt l i = true := by
            unfold Bt Kd
            rw [ha, hb, decide_eq_true (by omega : WO l i ≤ 64)]; rfl
          refine C5 hks4 h64 ?_
          refine Nu (P := Tryz.prog) (D := fun _ => none) (N := hn g .mk) Go.Ai.ty_el25 Go.Ai.ty_zr3 Go.Ai.ty_cl25 (Al.keep ow (HO (H2.le.refl _))) (by rw [AF]; have := hle.1; omega) (by rw [Cd]; have : Go.Ai.most = 1099511627776 := rfl; omega) ?_
          intro v5 g5 ow5 nn5 le5 on5 ap5
          repeat (first | rw [ko] | rw [kr] | simp -dsimp -implicitDefEqProofs only [go_sem, sQ1, AU hi (by omega)])
          refine AI (m - 1) (by omega) AL ⟨i + 1, v5, AL, AL, by omega, le5 g (Nat.le_refl _) (HO hle), ow5, fun j hj => ?_⟩
          by_cases hji : j = i
          · subst hji; rw [hsi, hdup]; rfl
          · exact hpre j (by omega)
    · refine Cu hks e4 e3 h1 ?_
      exact ⟨hle, ⟨_, rfl⟩, by rw [SN (by omega) fun j hj => hpre j (by omega)]⟩
end Go.Bi
end
section
set_option maxRecDepth 20000
namespace Go.Bi
open Go.Proofs
open Go.Ai (wrap_i64 wrap_u64 wrap_u8 Heap)
variable {W0 : World} {P : Program}
set_option maxHeartbeats 4000000
def E9 (d : Int) (r : List Int) : Bool := decide ((r.length : Int) = d) && allI r (-127) 127
def B2 (m : AM) : Int := 256 + (m.merges.length : Int)
def A9 (m : AM) : Bool :=
 Bk m.dim && (inI m.heads 1 2 && (CY m.merges && (decide ((m.embed.length : Int) = B2 m) && (inI m.layers.length 1 2 && (!(m.embed.any fun r => !E9 m.dim r) && (!(m.layers.any fun l => !Cm l m.dim) &&
  (DA m.gainEnd m.dim && (BD m.head m.dim (B2 m) && Dd m.turns m.context (Int.tdiv (Int.tdiv m.dim m.heads) 2)))))))))
def B4 (m : AM) : Prop := m.merges.length ≤ 1048576 ∧ ER m.embed ∧ m.layers.length ≤ 1048576 ∧ (∀ i, i < m.layers.length → Li (m.layers.getD i default)) ∧ m.gainEnd.length ≤ 1048576 ∧ DM m.head ∧ ER m.turns.cos ∧ ER m.turns.sin
theorem UC {F : FuncId} {p : Aj → Bool} {caps : List Value} {f : AQ} {ss : List Aj} {h : H2} (hn0 : ss.length ≤ 1048576)
  (hf : ∀ (i : Nat), i < ss.length → ∀ (F' : Nat → AQ) (h' : H2), h.le h' → PW Tryz.prog W0 F ([.st (C1 F' (ss.getD i default))] ++ caps.map .raw) h' (fun v => v = .raw (.bool (p (ss.getD i default))))) :
  PW Tryz.prog W0 175 [.sl f 32 (Af ss), .raw (.func (.func F) #[] caps.toArray)] h (fun v => ∃ k : Int, v = .raw (.int .i64 k) ∧ decide (0 ≤ k) = ss.any p) := by
 refine PW.scalar ((?_ : A7 _ _ _ _ _ fun v g' => h.le g' ∧ ∃ k : Int, v = .raw (.int .i64 k) ∧ decide (0 ≤ k) = ss.any p).mono fun v g' ⟨h1, k, h2, h3⟩ => ⟨h1, ⟨_, h2⟩, k, h2, h3⟩)
 refine AH [[0, 1], [0, 1], [0, 1, 7, 8], [0, 1, 7, 8], [0, 1, 5, 7, 8], [5], [0, 1, 7, 8], []] Tryz.func175 rfl (rs := [.tmp 4]) rfl rfl ?_
 intro wf
 refine zr ?_
 refine AJ [0, 1, 7] (fun m e h' => h.le h' ∧ ∃ k : Nat, look e 8 .mk = .raw (.int .i64 k) ∧ m + k = ss.length ∧ ∀ j : Nat, j < k → p (ss.getD j default) = false) ss.length ?_ ?_
 ·exact ⟨H2.le.refl _, 0, AL, by omega, fun j hj => by omega⟩
 ·rintro m e h' hks ⟨hle, k, e8, hk, hpre⟩
  simp -dsimp -implicitDefEqProofs only [go_sem, sQ1] at hks
  refine C5 hks e8 ?_
  refine AN (fun h2 => ?_) (fun h2 => ?_)
  ·have h3 : k < ss.length := by omega
   refine A1 h3 ?_
   refine AD (hf k h3 (fun j => under (under f k) j) _ hle) ?_
   rintro _ n hn1 rfl
   refine zr ?_
   refine EA (fun h4 => ?_) (fun h4 => ?_)
   ·refine zr ?_
    exact ⟨AK hle hn1, _, rfl, by rw [Dc h3 h4]; simp⟩
   ·repeat (first | rw [ko] | rw [kr] | simp -dsimp -implicitDefEqProofs only [go_sem, sQ1, AU h3 (by omega)])
    refine AI (m - 1) (by omega) AL ⟨AK hle hn1, k + 1, AL, by omega, fun j hj => ?_⟩
    by_cases hji : j = k
    ·subst hji; exact h4
    ·exact hpre j (by omega)
  ·refine zr ?_
   exact ⟨hle, _, rfl, by rw [any_none fun j hj => hpre j (by omega)]; rfl⟩
theorem OR {F : FuncId} {p : Aj → Bool} {caps : List Value} {f : AQ} {ss : List Aj} {h : H2} (hn0 : ss.length ≤ 1048576)
  (hf : ∀ (i : Nat), i < ss.length → ∀ (F' : Nat → AQ) (h' : H2), h.le h' → PW Tryz.prog W0 F ([.st (C1 F' (ss.getD i default))] ++ caps.map .raw) h' (fun v => v = .raw (.bool (p (ss.getD i default))))) :
  PW Tryz.prog W0 124 [.sl f 32 (Af ss), .raw (.func (.func F) #[] caps.toArray)] h (fun v => v = .raw (.bool (ss.any p))) := by
 refine PW.scalar ?_
 refine AH [[0, 1], [0, 1]] Tryz.func124 rfl (rs := [.tmp 4]) rfl rfl ?_
 intro wf
 refine zr ?_
 refine AD (UC hn0 hf) ?_
 rintro _ n hn1 ⟨k, rfl, hk⟩
 repeat (first | rw [ko] | rw [kr] | simp -dsimp -implicitDefEqProofs only [go_sem, hk])
 exact ⟨AK (H2.le.refl _) hn1, ⟨_, rfl⟩, rfl⟩
theorem ZQ {f : AQ} {r : List Int} {b : Nat} {d : Int} {ks : List X} {h : H2} (hb : hg h b .mk = some ⟨14, .raw (.int .i64 d) :: ks⟩) (hl : r.length ≤ 1048576) : PW Tryz.prog W0 122 [.sl f 1 (ints r), .raw (.pointer (some ⟨b, 0, none⟩))] h (fun y => y = .raw (.bool (!E9 d r))) := by
 refine PW.scalar ?_
 refine AH [[0, 1], [0, 1]] Tryz.func122 rfl (rs := [.tmp 3]) rfl rfl ?_
 intro wf
 by_cases h1 : (r.length : Int) = d
 ·have d1 : decide ((r.length : Int) = d) = true := decide_eq_true h1
  have e1 : decide (¬ (r.length : Int) = d) = false := decide_eq_false (fun h => h h1)
  refine C5 hb e1 ?_
  refine AD (BN (by omega)) ?_
  rintro _ n1 hn1 rfl
  refine zr ?_
  exact ⟨AK (H2.le.refl _) hn1, ⟨_, rfl⟩, by rw [E9, d1]; rfl⟩
 ·have d1 : decide ((r.length : Int) = d) = false := decide_eq_false h1
  have e1 : decide (¬ (r.length : Int) = d) = true := decide_eq_true h1
  refine C5 hb e1 ?_
  exact ⟨H2.le.refl _, ⟨_, rfl⟩, by rw [E9, d1]; rfl⟩
theorem Zv {F : Nat → AQ} {l : Aj} {b : Nat} {d : Int} {ks : List X} {h : H2} (hbn : b < hn h .mk) (hb : hg h b .mk = some ⟨14, .raw (.int .i64 d) :: ks⟩) (hl : Li l) : PW Tryz.prog W0 125 [.st (C1 F l), .raw (.pointer (some ⟨b, 0, none⟩))] h (fun y => y = .raw (.bool (!Cm l d))) := by
 refine PW.scalar ?_
 refine AH [[0, 1], [1, 2]] Tryz.func125 rfl (rs := [.tmp 3]) rfl rfl ?_
 intro wf
 have hne : (b == hn h .mk) = false := Cw
 refine LM hb hne ?_
 refine AD (OL (F := F) hl) ?_
 rintro _ n1 hn1 rfl
 rw [AB] at hn1
 refine zr ?_
 exact ⟨AK (le_push (H2.le.refl _)) (by rw [AB]; exact hn1), ⟨_, rfl⟩, rfl⟩
theorem Tl {F : Nat → AQ} {m : AM} {h : H2} (hl : m.merges.length ≤ 1048576) : PW Tryz.prog W0 120 [.st (BH F m)] h (fun y => y = .raw (.int .i64 (B2 m))) := by
 refine PW.scalar ?_
 refine AH [[0], [1]] Tryz.func120 rfl (rs := [.tmp 2]) rfl rfl ?_
 intro wf
 have w1 : IntKind.i64.wrap (256 + (m.merges.length : Int)) = 256 + (m.merges.length : Int) := by rw [wrap_i64] <;> omega
 refine DC w1 ?_
 exact ⟨le_push (H2.le.refl _), ⟨_, rfl⟩, rfl⟩
theorem Ks {F : Nat → AQ} {m : AM} {h : H2} (hl : m.merges.length ≤ 1048576) : PW Tryz.prog W0 100 [.st (BH F m)] h (fun y => y = .raw (.int .i64 (B2 m))) := by
 refine PW.scalar ?_
 refine AH [[0], [1]] Tryz.func100 rfl (rs := [.tmp 2]) rfl rfl ?_
 intro wf
 have w1 : IntKind.i64.wrap (256 + (m.merges.length : Int)) = 256 + (m.merges.length : Int) := by rw [wrap_i64] <;> omega
 refine DC w1 ?_
 exact ⟨le_push (H2.le.refl _), ⟨_, rfl⟩, rfl⟩
end Go.Bi
end
section
set_option maxRecDepth 20000
namespace Go.Bi
open Go.Proofs
open Go.Ai (wrap_i64 wrap_u64 wrap_u8 Heap)
variable {W0 : World} {P : Program}
set_option maxHeartbeats 4000000
theorem P2 {x : Int} : inI x 1 2 = (decide (x = 1) || decide (x = 2)) := by
 rw [Bool.eq_iff_iff]
 simp only [inI, Bool.and_eq_true, Bool.or_eq_true, decide_eq_true_eq]
 omega
theorem Od {F : Nat → AQ} {m : AM} {g : H2} (hs : B4 m) : PW Tryz.prog W0 48 [.st (BH F m)] g (fun y => y = .raw (.bool (A9 m))) := by
 obtain ⟨s1, s2, s3, s4, s5, s6, s7, s8⟩ := hs
 refine PW.scalar ?_
 refine AH [[0], [1], [], [1], [1, 3], [1, 3], [1, 3], [], [1], [1, 4], [1, 4], [1, 4], [], [1]] Tryz.func48 rfl (rs := [.tmp 2]) rfl rfl ?_
 intro wf
 refine zh ?_
 refine AO [(0, []), (1, []), (2, []), (3, []), (4, []), (5, []), (6, []), (7, []), (8, []), (9, []), (10, []), (11, []), (12, []), (13, []), (14, []), (15, []), (16, []), (17, []), (18, []), (19, []), (20, []), (21, []), (22, []), (23, []), (24, []), (25, [22]), (26, []), (27, []), (28, []), (29, []), (30, []), (31, []), (32, []), (33, []), (34, [])] (by kernel_rfl) ?_
 refine zh ?_
 refine AA EE ?_
 rintro _ _ ⟨rfl, rfl⟩
 cases h1 : Bk m.dim
 ·refine zh ?_
  exact ⟨le_push (H2.le.refl _), ⟨_, rfl⟩, by rw [A9, h1]; rfl⟩
 by_cases h2 : m.heads = 1 ∨ m.heads = 2
 rotate_left
 ·have e1 : decide (¬ m.heads = 1) = true := decide_eq_true (fun h => h2 (.inl h))
  have e2 : decide (¬ m.heads = 2) = true := decide_eq_true (fun h => h2 (.inr h))
  refine LM e1 e2 ?_
  exact ⟨le_push (H2.le.refl _), ⟨_, rfl⟩, by rw [A9, h1, P2, decide_eq_false (fun h => h2 (.inl h)), decide_eq_false (fun h => h2 (.inr h))]; rfl⟩
 have heq : inI m.heads 1 2 = true := by
  rw [P2]
  rcases h2 with h2 | h2 <;> rw [h2] <;> rfl
 have mid : ∀ {A : Prop}, (decide (¬ m.heads = 1) = false → A) → (decide (¬ m.heads = 1) = true → decide (¬ m.heads = 2) = false → A) → A := fun a b => by
  rcases h2 with h2 | h2
  ·exact a (decide_eq_false (fun h => h h2))
  ·exact b (decide_eq_true (by omega)) (decide_eq_false (fun h => h h2))
 refine mid (fun e1 => ?_) (fun e1 e2 => ?_)
 ·refine DC e1 ?_
  refine AD (Gt s1) ?_
  rintro _ n1 hn1 rfl
  try (rw [kq]; refine ⟨AL, ?_⟩)
  cases h3 : CY m.merges
  ·refine zh ?_
   exact ⟨AZ, ⟨_, rfl⟩, by rw [A9, h1, heq, h3]; rfl⟩
  refine zh ?_
  refine AD (Ks (F := F) (m := m) s1) ?_
  rintro _ n2 hn2 rfl
  try (rw [kq]; refine ⟨by simp -dsimp -implicitDefEqProofs only [go_sem, sQ1, Av], ?_⟩)
  by_cases h4 : (m.embed.length : Int) = B2 m
  rotate_left
  ·have e4 : decide (¬ (m.embed.length : Int) = B2 m) = true := decide_eq_true h4
   refine DC e4 ?_
   exact ⟨AZ, ⟨_, rfl⟩, by rw [A9, h1, heq, h3, decide_eq_false h4]; rfl⟩
  have e4 : decide (¬ (m.embed.length : Int) = B2 m) = false := decide_eq_false (fun h => h h4)
  refine DC e4 ?_
  refine AA Ab ?_
  rintro _ _ ⟨rfl, rfl⟩
  try (rw [kq]; refine ⟨AL, ?_⟩)
  cases h5 : inI m.layers.length 1 2
  ·refine zh ?_
   exact ⟨AZ, ⟨_, rfl⟩, by rw [A9, h1, heq, h3, decide_eq_true h4, h5]; rfl⟩
  refine zh ?_
  simp only [AF, AB] at hn1 hn2
  refine AJ [1] (fun mm e h' => ∃ (i : Nat), g.le h' ∧ hn g .mk < hn h' .mk ∧ hg h' (hn g .mk) .mk = some ⟨14, [.raw (.int .i64 m.dim), .raw (.int .i64 m.heads), .raw (.int .i64 m.context), .sl (F 3) 2 (AY m.merges), .sl (F 4) 1 (AE m.embed), .sl (F 5) 32 (Af m.layers), .sl (F 6) 1 (ints m.gainEnd), .raw (.int .i64 m.head.width), .sl (F 8) 1 (AE m.head.rows), .sl (F 9) 1 (AE m.head.scales), .raw (.int .i64 m.head.mul), .raw (.int .i64 m.head.shift), .sl (F 12) 1 (AE m.turns.cos), .sl (F 13) 1 (AE m.turns.sin)]⟩ ∧ look e 3 .mk = .raw (.int .i64 (i : Nat)) ∧ mm + i = m.embed.length ∧ ∀ j, j < i → E9 m.dim (m.embed.getD j default) = true) m.embed.length ?_ ?_
  ·exact ⟨0, AZ, by simp only [AF]; omega, by simp -dsimp -implicitDefEqProofs only [go_sem, Av], AL, by omega, fun j hj => by omega⟩
  rintro mm e h' hks ⟨i, hle, hlt, row, ei, hm, hpre⟩
  simp -dsimp -implicitDefEqProofs only [go_sem] at hks
  by_cases q1 : (i : Int) < (m.embed.length : Int)
  ·have q2 : i < m.embed.length := by omega
   have hsz := s2.1
   have w1 := BE i (by omega)
   have bad : E9 m.dim (m.embed.getD i default) = false → A9 m = false := fun h => by
    rw [A9, h1, heq, h3, decide_eq_true h4, h5, Dc (p := fun r => !E9 m.dim r) q2 (by simp only [h]; rfl)]; rfl
   by_cases q4 : ((m.embed.getD i default).length : Int) = m.dim
   ·have e5 : decide (¬ ((m.embed.getD i default).length : Int) = m.dim) = false := decide_eq_false (fun h => h q4)
    repeat (first | rw [ko] | rw [kr] | simp -dsimp -implicitDefEqProofs only [go_sem, sQ1, hks, ei, q1, row])
    refine AO [(0, []), (1, []), (2, []), (3, []), (4, []), (5, []), (6, []), (7, []), (8, []), (9, []), (10, []), (11, []), (12, []), (13, []), (14, []), (15, []), (16, []), (17, [])] (by kernel_rfl) ?_
    repeat (first | rw [ko] | rw [kr] | simp -dsimp -implicitDefEqProofs only [go_sem, sQ1, q2, row, e5])
    refine AD (BB (by have := Bf s2 i; omega)) ?_
    rintro _ n3 hn3 rfl
    cases q5 : allI (m.embed.getD i default) (-127) 127
    ·refine zr ?_
     exact ⟨AK hle hn3, ⟨_, rfl⟩, by rw [bad (by rw [E9, q5, Bool.and_false])]⟩
    ·refine A1 w1 ?_
     refine AI (mm - 1) (by omega) AL ⟨i + 1, AK hle hn3, by simp only [AF]; omega, by simp -dsimp -implicitDefEqProofs only [go_sem, row], AL, by omega, fun j hj => ?_⟩
     by_cases hji : j = i
     ·subst hji; rw [E9, decide_eq_true q4, q5]; rfl
     ·exact hpre j (by omega)
   ·have e5 : decide (¬ ((m.embed.getD i default).length : Int) = m.dim) = true := decide_eq_true q4
    repeat (first | rw [ko] | rw [kr] | simp -dsimp -implicitDefEqProofs only [go_sem, sQ1, hks, ei, q1, row])
    refine AO [(0, []), (1, []), (2, []), (3, []), (4, []), (5, []), (6, []), (7, []), (8, []), (9, []), (10, []), (11, []), (12, []), (13, []), (14, []), (15, []), (16, []), (17, [])] (by kernel_rfl) ?_
    repeat (first | rw [ko] | rw [kr] | simp -dsimp -implicitDefEqProofs only [go_sem, sQ1, q2, row, e5])
    exact ⟨hle, ⟨_, rfl⟩, by rw [bad (by rw [E9, decide_eq_false q4]; rfl)]⟩
  have h6 : (m.embed.any fun r => !E9 m.dim r) = false := any_none fun j hj => by rw [hpre j (by omega)]; rfl
  repeat (first | rw [ko] | rw [kr] | simp -dsimp -implicitDefEqProofs only [go_sem, sQ1, hks, ei, q1, row])
  refine AJ [1] (fun m2 e2 h2' => ∃ (k : Nat), g.le h2' ∧ hn g .mk < hn h2' .mk ∧ hg h2' (hn g .mk) .mk = some ⟨14, [.raw (.int .i64 m.dim), .raw (.int .i64 m.heads), .raw (.int .i64 m.context), .sl (F 3) 2 (AY m.merges), .sl (F 4) 1 (AE m.embed), .sl (F 5) 32 (Af m.layers), .sl (F 6) 1 (ints m.gainEnd), .raw (.int .i64 m.head.width), .sl (F 8) 1 (AE m.head.rows), .sl (F 9) 1 (AE m.head.scales), .raw (.int .i64 m.head.mul), .raw (.int .i64 m.head.shift), .sl (F 12) 1 (AE m.turns.cos), .sl (F 13) 1 (AE m.turns.sin)]⟩ ∧ look e2 4 .mk = .raw (.int .i64 (k : Nat)) ∧ m2 + k = m.layers.length ∧ ∀ j, j < k → Cm (m.layers.getD j default) m.dim = true) m.layers.length ?_ ?_
  ·exact ⟨0, hle, hlt, row, AL, by omega, fun j hj => by omega⟩
  rintro m2 e2 h2' hks2 ⟨k, hle2, hlt2, row2, ek, hm2, hpre2⟩
  simp -dsimp -implicitDefEqProofs only [go_sem] at hks2
  by_cases q1 : (k : Int) < (m.layers.length : Int)
  ·have q2 : k < m.layers.length := by omega
   have w1 := BE k (by omega)
   refine Cu hks2 ek q1 row2 ?_
   refine AO [(0, []), (1, []), (2, []), (3, []), (4, []), (5, []), (6, []), (7, []), (8, [])] (by kernel_rfl) ?_
   refine C5 q2 row2 ?_
   refine AD (JZ (F := fun j => under (under (F 5) k) j) (l := m.layers.getD k default) (s4 k q2)) ?_
   rintro _ n3 hn3 rfl
   rw [h1, Bool.true_and]
   cases q5 : Cm (m.layers.getD k default) m.dim
   ·refine zr ?_
    exact ⟨AK hle2 hn3, ⟨_, rfl⟩, by rw [A9, h1, heq, h3, decide_eq_true h4, h5, h6, Dc (p := fun l => !Cm l m.dim) q2 (by simp only [q5]; rfl)]; rfl⟩
   ·refine A1 w1 ?_
    refine AI (m2 - 1) (by omega) AL ⟨k + 1, AK hle2 hn3, by simp only [AF]; omega, by simp -dsimp -implicitDefEqProofs only [go_sem, row2], AL, by omega, fun j hj => ?_⟩
    by_cases hji : j = k
    ·subst hji; exact q5
    ·exact hpre2 j (by omega)
  have h7 : (m.layers.any fun l => !Cm l m.dim) = false := any_none fun j hj => by rw [hpre2 j (by omega)]; rfl
  refine Cu hks2 ek q1 row2 ?_
  refine AO [(0, []), (1, []), (2, []), (3, []), (4, []), (5, []), (6, []), (7, []), (8, []), (9, []), (10, []), (11, [7, 9]), (12, []), (13, []), (14, []), (15, []), (16, []), (17, []), (18, []), (19, []), (20, []), (21, []), (22, []), (23, []), (24, []), (25, []), (26, []), (27, [])] (by kernel_rfl) ?_
  refine DC row2 ?_
  refine AD (FH s5) ?_
  rintro _ n5 hn5 rfl
  try (rw [kq]; refine ⟨AL, ?_⟩)
  cases h8 : DA m.gainEnd m.dim
  ·refine zh ?_
   exact ⟨AZ, ⟨_, rfl⟩, by rw [A9, h1, heq, h3, decide_eq_true h4, h5, h6, h7, h8]; rfl⟩
  refine DC row2 ?_
  refine AD (Ks (F := F) (m := m) s1) ?_
  rintro _ n6 hn6 rfl
  simp only [AF] at hn6
  try (rw [kq]; refine ⟨by simp -dsimp -implicitDefEqProofs only [go_sem, sQ1, row2, Av], ?_⟩)
  refine zh ?_
  refine AD (B5 (F := fun j => F (j + 7)) (m := m.head) s6) ?_
  rintro _ n7 hn7 rfl
  simp only [AF] at hn7
  try (rw [kq]; refine ⟨AL, ?_⟩)
  cases h9 : BD m.head m.dim (B2 m)
  ·refine zh ?_
   exact ⟨AZ, ⟨_, rfl⟩, by rw [A9, h1, heq, h3, decide_eq_true h4, h5, h6, h7, h8, h9]; rfl⟩
  have hw := Fw h1
  have hh : m.heads = 1 ∨ m.heads = 2 := by have := Bs heq; omega
  have z0 : (m.heads == 0) = false := Cw
  have w1 : IntKind.i64.wrap (Int.tdiv m.dim m.heads) = Int.tdiv m.dim m.heads := by
   rcases hw with hw | hw <;> rcases hh with hh | hh <;> rw [hw, hh] <;> decide
  have w2 : IntKind.i64.wrap (Int.tdiv (Int.tdiv m.dim m.heads) 2) = Int.tdiv (Int.tdiv m.dim m.heads) 2 := by
   rcases hw with hw | hw <;> rcases hh with hh | hh <;> rw [hw, hh] <;> decide
  refine gJ row2 z0 w1 w2 ?_
  refine AD (JT (F := fun j => F (j + 12)) (t := m.turns) s7 s8) ?_
  rintro _ n8 hn8 rfl
  simp only [AF] at hn8
  try (rw [kq]; refine ⟨AL, ?_⟩)
  refine zh ?_
  exact ⟨AZ, ⟨_, rfl⟩, by rw [A9, h1, heq, h3, decide_eq_true h4, h5, h6, h7, h8, h9]; rfl⟩
 ·refine LM e1 e2 ?_
  refine AD (Gt s1) ?_
  rintro _ n1 hn1 rfl
  try (rw [kq]; refine ⟨AL, ?_⟩)
  cases h3 : CY m.merges
  ·refine zh ?_
   exact ⟨AZ, ⟨_, rfl⟩, by rw [A9, h1, heq, h3]; rfl⟩
  refine zh ?_
  refine AD (Ks (F := F) (m := m) s1) ?_
  rintro _ n2 hn2 rfl
  try (rw [kq]; refine ⟨by simp -dsimp -implicitDefEqProofs only [go_sem, sQ1, Av], ?_⟩)
  by_cases h4 : (m.embed.length : Int) = B2 m
  rotate_left
  ·have e4 : decide (¬ (m.embed.length : Int) = B2 m) = true := decide_eq_true h4
   refine DC e4 ?_
   exact ⟨AZ, ⟨_, rfl⟩, by rw [A9, h1, heq, h3, decide_eq_false h4]; rfl⟩
  have e4 : decide (¬ (m.embed.length : Int) = B2 m) = false := decide_eq_false (fun h => h h4)
  refine DC e4 ?_
  refine AA Ab ?_
  rintro _ _ ⟨rfl, rfl⟩
  try (rw [kq]; refine ⟨AL, ?_⟩)
  cases h5 : inI m.layers.length 1 2
  ·refine zh ?_
   exact ⟨AZ, ⟨_, rfl⟩, by rw [A9, h1, heq, h3, decide_eq_true h4, h5]; rfl⟩
  refine zh ?_
  simp only [AF, AB] at hn1 hn2
  refine AJ [1] (fun mm e h' => ∃ (i : Nat), g.le h' ∧ hn g .mk < hn h' .mk ∧ hg h' (hn g .mk) .mk = some ⟨14, [.raw (.int .i64 m.dim), .raw (.int .i64 m.heads), .raw (.int .i64 m.context), .sl (F 3) 2 (AY m.merges), .sl (F 4) 1 (AE m.embed), .sl (F 5) 32 (Af m.layers), .sl (F 6) 1 (ints m.gainEnd), .raw (.int .i64 m.head.width), .sl (F 8) 1 (AE m.head.rows), .sl (F 9) 1 (AE m.head.scales), .raw (.int .i64 m.head.mul), .raw (.int .i64 m.head.shift), .sl (F 12) 1 (AE m.turns.cos), .sl (F 13) 1 (AE m.turns.sin)]⟩ ∧ look e 3 .mk = .raw (.int .i64 (i : Nat)) ∧ mm + i = m.embed.length ∧ ∀ j, j < i → E9 m.dim (m.embed.getD j default) = true) m.embed.length ?_ ?_
  ·exact ⟨0, AZ, by simp only [AF]; omega, by simp -dsimp -implicitDefEqProofs only [go_sem, Av], AL, by omega, fun j hj => by omega⟩
  rintro mm e h' hks ⟨i, hle, hlt, row, ei, hm, hpre⟩
  simp -dsimp -implicitDefEqProofs only [go_sem] at hks
  by_cases q1 : (i : Int) < (m.embed.length : Int)
  ·have q2 : i < m.embed.length := by omega
   have hsz := s2.1
   have w1 := BE i (by omega)
   have bad : E9 m.dim (m.embed.getD i default) = false → A9 m = false := fun h => by
    rw [A9, h1, heq, h3, decide_eq_true h4, h5, Dc (p := fun r => !E9 m.dim r) q2 (by simp only [h]; rfl)]; rfl
   by_cases q4 : ((m.embed.getD i default).length : Int) = m.dim
   ·have e5 : decide (¬ ((m.embed.getD i default).length : Int) = m.dim) = false := decide_eq_false (fun h => h q4)
    repeat (first | rw [ko] | rw [kr] | simp -dsimp -implicitDefEqProofs only [go_sem, sQ1, hks, ei, q1, row])
    refine AO [(0, []), (1, []), (2, []), (3, []), (4, []), (5, []), (6, []), (7, []), (8, []), (9, []), (10, []), (11, []), (12, []), (13, []), (14, []), (15, []), (16, []), (17, [])] (by kernel_rfl) ?_
    repeat (first | rw [ko] | rw [kr] | simp -dsimp -implicitDefEqProofs only [go_sem, sQ1, q2, row, e5])
    refine AD (BB (by have := Bf s2 i; omega)) ?_
    rintro _ n3 hn3 rfl
    cases q5 : allI (m.embed.getD i default) (-127) 127
    ·refine zr ?_
     exact ⟨AK hle hn3, ⟨_, rfl⟩, by rw [bad (by rw [E9, q5, Bool.and_false])]⟩
    ·refine A1 w1 ?_
     refine AI (mm - 1) (by omega) AL ⟨i + 1, AK hle hn3, by simp only [AF]; omega, by simp -dsimp -implicitDefEqProofs only [go_sem, row], AL, by omega, fun j hj => ?_⟩
     by_cases hji : j = i
     ·subst hji; rw [E9, decide_eq_true q4, q5]; rfl
     ·exact hpre j (by omega)
   ·have e5 : decide (¬ ((m.embed.getD i default).length : Int) = m.dim) = true := decide_eq_true q4
    repeat (first | rw [ko] | rw [kr] | simp -dsimp -implicitDefEqProofs only [go_sem, sQ1, hks, ei, q1, row])
    refine AO [(0, []), (1, []), (2, []), (3, []), (4, []), (5, []), (6, []), (7, []), (8, []), (9, []), (10, []), (11, []), (12, []), (13, []), (14, []), (15, []), (16, []), (17, [])] (by kernel_rfl) ?_
    repeat (first | rw [ko] | rw [kr] | simp -dsimp -implicitDefEqProofs only [go_sem, sQ1, q2, row, e5])
    exact ⟨hle, ⟨_, rfl⟩, by rw [bad (by rw [E9, decide_eq_false q4]; rfl)]⟩
  have h6 : (m.embed.any fun r => !E9 m.dim r) = false := any_none fun j hj => by rw [hpre j (by omega)]; rfl
  repeat (first | rw [ko] | rw [kr] | simp -dsimp -implicitDefEqProofs only [go_sem, sQ1, hks, ei, q1, row])
  refine AJ [1] (fun m2 e2 h2' => ∃ (k : Nat), g.le h2' ∧ hn g .mk < hn h2' .mk ∧ hg h2' (hn g .mk) .mk = some ⟨14, [.raw (.int .i64 m.dim), .raw (.int .i64 m.heads), .raw (.int .i64 m.context), .sl (F 3) 2 (AY m.merges), .sl (F 4) 1 (AE m.embed), .sl (F 5) 32 (Af m.layers), .sl (F 6) 1 (ints m.gainEnd), .raw (.int .i64 m.head.width), .sl (F 8) 1 (AE m.head.rows), .sl (F 9) 1 (AE m.head.scales), .raw (.int .i64 m.head.mul), .raw (.int .i64 m.head.shift), .sl (F 12) 1 (AE m.turns.cos), .sl (F 13) 1 (AE m.turns.sin)]⟩ ∧ look e2 4 .mk = .raw (.int .i64 (k : Nat)) ∧ m2 + k = m.layers.length ∧ ∀ j, j < k → Cm (m.layers.getD j default) m.dim = true) m.layers.length ?_ ?_
  ·exact ⟨0, hle, hlt, row, AL, by omega, fun j hj => by omega⟩
  rintro m2 e2 h2' hks2 ⟨k, hle2, hlt2, row2, ek, hm2, hpre2⟩
  simp -dsimp -implicitDefEqProofs only [go_sem] at hks2
  by_cases q1 : (k : Int) < (m.layers.length : Int)
  ·have q2 : k < m.layers.length := by omega
   have w1 := BE k (by omega)
   refine Cu hks2 ek q1 row2 ?_
   refine AO [(0, []), (1, []), (2, []), (3, []), (4, []), (5, []), (6, []), (7, []), (8, [])] (by kernel_rfl) ?_
   refine C5 q2 row2 ?_
   refine AD (JZ (F := fun j => under (under (F 5) k) j) (l := m.layers.getD k default) (s4 k q2)) ?_
   rintro _ n3 hn3 rfl
   rw [h1, Bool.true_and]
   cases q5 : Cm (m.layers.getD k default) m.dim
   ·refine zr ?_
    exact ⟨AK hle2 hn3, ⟨_, rfl⟩, by rw [A9, h1, heq, h3, decide_eq_true h4, h5, h6, Dc (p := fun l => !Cm l m.dim) q2 (by simp only [q5]; rfl)]; rfl⟩
   ·refine A1 w1 ?_
    refine AI (m2 - 1) (by omega) AL ⟨k + 1, AK hle2 hn3, by simp only [AF]; omega, by simp -dsimp -implicitDefEqProofs only [go_sem, row2], AL, by omega, fun j hj => ?_⟩
    by_cases hji : j = k
    ·subst hji; exact q5
    ·exact hpre2 j (by omega)
  have h7 : (m.layers.any fun l => !Cm l m.dim) = false := any_none fun j hj => by rw [hpre2 j (by omega)]; rfl
  refine Cu hks2 ek q1 row2 ?_
  refine AO [(0, []), (1, []), (2, []), (3, []), (4, []), (5, []), (6, []), (7, []), (8, []), (9, []), (10, []), (11, [7, 9]), (12, []), (13, []), (14, []), (15, []), (16, []), (17, []), (18, []), (19, []), (20, []), (21, []), (22, []), (23, []), (24, []), (25, []), (26, []), (27, [])] (by kernel_rfl) ?_
  refine DC row2 ?_
  refine AD (FH s5) ?_
  rintro _ n5 hn5 rfl
  try (rw [kq]; refine ⟨AL, ?_⟩)
  cases h8 : DA m.gainEnd m.dim
  ·refine zh ?_
   exact ⟨AZ, ⟨_, rfl⟩, by rw [A9, h1, heq, h3, decide_eq_true h4, h5, h6, h7, h8]; rfl⟩
  refine DC row2 ?_
  refine AD (Ks (F := F) (m := m) s1) ?_
  rintro _ n6 hn6 rfl
  simp only [AF] at hn6
  try (rw [kq]; refine ⟨by simp -dsimp -implicitDefEqProofs only [go_sem, sQ1, row2, Av], ?_⟩)
  refine zh ?_
  refine AD (B5 (F := fun j => F (j + 7)) (m := m.head) s6) ?_
  rintro _ n7 hn7 rfl
  simp only [AF] at hn7
  try (rw [kq]; refine ⟨AL, ?_⟩)
  cases h9 : BD m.head m.dim (B2 m)
  ·refine zh ?_
   exact ⟨AZ, ⟨_, rfl⟩, by rw [A9, h1, heq, h3, decide_eq_true h4, h5, h6, h7, h8, h9]; rfl⟩
  have hw := Fw h1
  have hh : m.heads = 1 ∨ m.heads = 2 := by have := Bs heq; omega
  have z0 : (m.heads == 0) = false := Cw
  have w1 : IntKind.i64.wrap (Int.tdiv m.dim m.heads) = Int.tdiv m.dim m.heads := by
   rcases hw with hw | hw <;> rcases hh with hh | hh <;> rw [hw, hh] <;> decide
  have w2 : IntKind.i64.wrap (Int.tdiv (Int.tdiv m.dim m.heads) 2) = Int.tdiv (Int.tdiv m.dim m.heads) 2 := by
   rcases hw with hw | hw <;> rcases hh with hh | hh <;> rw [hw, hh] <;> decide
  refine gJ row2 z0 w1 w2 ?_
  refine AD (JT (F := fun j => F (j + 12)) (t := m.turns) s7 s8) ?_
  rintro _ n8 hn8 rfl
  simp only [AF] at hn8
  try (rw [kq]; refine ⟨AL, ?_⟩)
  refine zh ?_
  exact ⟨AZ, ⟨_, rfl⟩, by rw [A9, h1, heq, h3, decide_eq_true h4, h5, h6, h7, h8, h9]; rfl⟩
end Go.Bi
end
section
set_option maxRecDepth 20000
namespace Go.Bi
open Go.Proofs
open Go.Ai (wrap_i64 wrap_u64 wrap_u8)
variable {W0 : World}
structure At where
 shift : Int
 values : List Int
instance : Inhabited At := ⟨⟨default, default⟩⟩
def Ev (c : At) : List T := [.v (.int .i64 c.shift), .l 1 (ints c.values)]
def JE (F : Nat → AQ) (c : At) : List X := [.raw (.int .i64 c.shift), .sl (F 1) 1 (ints c.values)]
theorem V5 {c : At} : Ev c = [.v (.int .i64 c.shift), .l 1 (ints c.values)] := rfl
theorem VR {F : Nat → AQ} {c : At} : JE F c = [.raw (.int .i64 c.shift), .sl (F 1) 1 (ints c.values)] := rfl
attribute [go_sem] V5 VR
theorem ZU {g : H2} {c : At} {b1 : List Nat} {s1 : X} (a1 : OT g b1 s1 (.l 1 (ints c.values))) : Ak g (b1) [.raw (.int .i64 c.shift), s1] (Ev c) := by
 have := Ak.cons (OT.raw (v := .int .i64 c.shift) rfl) (Ak.cons a1 (Ak.nil))
 simpa only [Ev, List.append_nil, List.nil_append] using this
def Bd (zs : List At) : List (List T) := zs.map Ev
theorem MY {zs : List At} : (Bd zs).length = zs.length := by simp [Bd]
theorem T7 {zs : List At} {i : Nat} (hi : i < zs.length) : el (Bd zs) i = Ev (zs.getD i default) := Gg hi
attribute [go_sem] MY T7
def CL (zs : List At) : List T := [.l 2 (Bd zs)]
theorem R1 {zs : List At} : CL zs = [.l 2 (Bd zs)] := rfl
attribute [go_sem] R1
def An (zs : List (List At)) : List (List T) := zs.map CL
theorem HD {zs : List (List At)} : (An zs).length = zs.length := by simp [An]
theorem RR {zs : List (List At)} {i : Nat} (hi : i < zs.length) : el (An zs) i = CL (zs.getD i default) := Gg hi
attribute [go_sem] HD RR
structure BS where
 keys : List (List At)
 values : List (List At)
instance : Inhabited BS := ⟨⟨default, default⟩⟩
def De (c : BS) : List T := [.l 1 (An c.keys), .l 1 (An c.values)]
def Ql (F : Nat → AQ) (c : BS) : List X := [.sl (F 0) 1 (An c.keys), .sl (F 1) 1 (An c.values)]
theorem Vt {c : BS} : De c = [.l 1 (An c.keys), .l 1 (An c.values)] := rfl
theorem T5 {F : Nat → AQ} {c : BS} : Ql F c = [.sl (F 0) 1 (An c.keys), .sl (F 1) 1 (An c.values)] := rfl
attribute [go_sem] Vt T5
def KG (zs : List BS) : List (List T) := zs.map De
theorem RY {zs : List BS} : (KG zs).length = zs.length := by simp [KG]
theorem T9 {zs : List BS} {i : Nat} (hi : i < zs.length) : el (KG zs) i = De (zs.getD i default) := Gg hi
attribute [go_sem] RY T9
structure OQ where
 refs : List Int
 pages : List (List BS)
instance : Inhabited OQ := ⟨⟨default, default⟩⟩
end Go.Bi
end
section
set_option maxRecDepth 20000
namespace Go.Bi
open Go.Proofs
open Go.Ai (wrap_i64 wrap_u64 wrap_u8 Heap)
variable {W0 : World} {P : Program}
set_option maxHeartbeats 4000000
def G4 (p : At) : Bool := inI p.shift 0 4 && (inI p.values.length 1 8 && allI p.values (-15) 15)
theorem Ul {D : Nat → Option (List Nat)} {g : H2} {K : KT} {t u U y N : Nat} {xs : List Int} {x : X} {f : AQ} {s : Int} (he : Go.Ai.elt? P t = some (U, 1, y)) (hz : Go.Ai.zr? P U = some [.int .i64 0]) (hu : Go.Ai.cls? P u = some .sl)
  (hx : Al N g x xs) (hN0 : N ≤ hn g .mk) (hn0 : (xs.length + 1) * (y + 1) ≤ Go.Ai.most)
  (hk : ∀ v' g', Al N g' v' (xs ++ [s]) → hn g .mk ≤ hn g' .mk → (∀ g0 : H2, hn g0 .mk ≤ N → g0.le g → g0.le g') → (∀ c, c < hn g .mk → AP x ≠ some c → hg g' c .mk = hg g c .mk) → kz K v' g' .mk) :
  az (EN P g .append [t, u] [x, .sl f 1 [[.v (.int .i64 s)]]] .mk) K .mk := by
 refine DO (z := 0) (m := 1) (news := [cI s]) (N := N) he hz rfl hu hx hN0 rfl rfl rfl hn0 ?_
 intro v' g' o
 refine hk v' g' ?_
 unfold Al
 rw [List.map_append, List.length_append]
 exact o
end Go.Bi
end
section
set_option maxRecDepth 20000
namespace Go.Bi
open Go.Proofs
open Go.Ai (wrap_i64 wrap_u64 wrap_u8 Heap)
variable {W0 : World} {P : Program}
set_option maxHeartbeats 4000000
def Pe (n : Int) (p : At) : Bool := G4 p && decide ((p.values.length : Int) = n)
def FU (l : List At) (k n : Int) : Bool := decide ((l.length : Int) = k) && !(l.any fun p => !Pe n p)
end Go.Bi
end
section
namespace Go.Bi
open Go.Proofs
def Ay (n : Int) (l : List Int) : Prop := ∀ x ∈ l, -n ≤ x ∧ x ≤ n
theorem BM {l : List Int} {n m : Int} (h : Ay n l) (hm : n ≤ m) : allI l (-m) m = true := by
 rw [allI, List.all_eq_true]
 intro x hx
 have := h x hx
 rw [inI, Bool.and_eq_true]
 exact ⟨decide_eq_true (by omega), decide_eq_true (by omega)⟩
def Gz (x m : Int) : Int := if x > m then m else if x < -m then -m else x
theorem EY {x m : Int} (h : 0 ≤ m) : -m ≤ Gz x m ∧ Gz x m ≤ m := by
 unfold Gz
 split
 ·omega
 ·split <;> omega
def Gq (x mul : Int) (sh : Nat) : Int := (x * mul + (2 ^ sh : Int) / 2) / (2 ^ sh : Int)
def Aq (f : Nat → Int) : Nat → Int
 | 0 => 0
 | n + 1 => Aq f n + f n
theorem Ep {f : Nat → Int} {b : Int} (hb : 0 ≤ b) : ∀ {n : Nat}, (∀ i, i < n → -b ≤ f i ∧ f i ≤ b) → -(b * n) ≤ Aq f n ∧ Aq f n ≤ b * n
 | 0, _ => by simp [Aq]
 | n + 1, h => by
  have h1 := Ep hb (n := n) (fun i hi => h i (by omega))
  have h2 := h n (by omega)
  have h3 : b * ((n + 1 : Nat) : Int) = b * (n : Int) + b := by rw [Int.natCast_add, Int.mul_add]; simp
  rw [h3]
  show -(b * (n : Int) + b) ≤ Aq f n + f n ∧ Aq f n + f n ≤ b * (n : Int) + b
  omega
theorem Br {x y a b : Int} (hx : -a ≤ x ∧ x ≤ a) (hy : -b ≤ y ∧ y ≤ b) : -(a * b) ≤ x * y ∧ x * y ≤ a * b := by
 have ha : 0 ≤ a := by omega
 have hb : 0 ≤ b := by omega
 have h1 : x.natAbs ≤ a.natAbs := by omega
 have h2 : y.natAbs ≤ b.natAbs := by omega
 have h3 := Nat.mul_le_mul h1 h2
 rw [← Int.natAbs_mul, ← Int.natAbs_mul] at h3
 have h4 : 0 ≤ a * b := Int.mul_nonneg ha hb
 omega
def ar (r s x : List Int) : Int := Aq (fun i => s.getD (i / 4) default * r.getD i default * x.getD i default) r.length
def Az (m : AR) (x : List Int) : List Int := (List.range m.rows.length).map fun i => ar (m.rows.getD i default) (m.scales.getD i default) x
def Dw (m : AR) (l : List Int) : List Int := l.map fun n => Gz (Gq n m.mul m.shift.toNat) 127
def Ad (m : AR) (x : List Int) : List Int := Dw m (Az m x)
theorem CH {m : AR} {x : List Int} : (Az m x).length = m.rows.length := by simp [Az]
theorem E5 {m : AR} {x : List Int} : (Ad m x).length = m.rows.length := by simp [Ad, Dw, Az]
theorem IK {m : AR} {x : List Int} : Ay 127 (Ad m x) := fun y hy => by
 obtain ⟨n, _, rfl⟩ := List.mem_map.1 hy
 exact EY (by omega)
def I4 (n : Int) : Nat → Int → Int → Int
 | 0, lo, _ => lo
 | k + 1, lo, hi => if hi - lo > 1 then (if ((lo + hi) / 2) * ((lo + hi) / 2) ≤ n then I4 n k ((lo + hi) / 2) hi else I4 n k lo ((lo + hi) / 2)) else lo
def Gu (n : Int) : Int := I4 n 1000002 0 1000001
def A4 (x : List Int) : Int := Aq (fun i => x.getD i default) x.length / (x.length : Int)
def Dv (x : List Int) : Int := Aq (fun i => (x.getD i default - A4 x) * (x.getD i default - A4 x)) x.length / (x.length : Int)
def Ah (x g : List Int) : List Int := (List.range x.length).map fun i => Gz ((x.getD i default - A4 x) * g.getD i default / Gu (Dv x + 1)) 127
theorem GA {x g : List Int} : (Ah x g).length = x.length := by simp [Ah]
theorem Nx {x g : List Int} : Ay 127 (Ah x g) := fun y hy => by
 obtain ⟨n, _, rfl⟩ := List.mem_map.1 hy
 exact EY (by omega)
def TU (a b c s : Int) : Int := Gz ((a * c - b * s) / 128) 127
def TR (a b c s : Int) : Int := Gz ((a * s + b * c) / 128) 127
def DR (c s : List Int) (head : Nat) (x : List Int) : List Int := (List.range x.length).map fun i =>
 if i % 2 = 0 then TU (x.getD i default) (x.getD (i + 1) default) (c.getD (i % head / 2) default) (s.getD (i % head / 2) default)
 else TR (x.getD (i - 1) default) (x.getD i default) (c.getD ((i - 1) % head / 2) default) (s.getD ((i - 1) % head / 2) default)
theorem Et {c s : List Int} {head : Nat} {x : List Int} : (DR c s head x).length = x.length := by simp [DR]
theorem Sp {c s : List Int} {head : Nat} {x : List Int} : Ay 127 (DR c s head x) := fun y hy => by
 obtain ⟨n, _, rfl⟩ := List.mem_map.1 hy
 split <;> exact EY (by omega)
def A2 (x : List Int) (size h : Nat) : List Int := (x.drop (h * size)).take size
def FE (x : List Int) (sh : Nat) : List Int := x.map fun n => Gz (Gq n 1 sh) 15
def ET (x : List Int) (sh : Nat) : Bool := x.all fun n => inI (Gq n 1 sh) (-15) 15
def Im (x : List Int) : Nat := if ET x 0 = true then 0 else if ET x 1 = true then 1 else if ET x 2 = true then 2 else if ET x 3 = true then 3 else 4
def EO (x : List Int) : At := ⟨Im x, FE x (Im x)⟩
def Dz (p : At) : List Int := p.values.map fun n => Gz (n * 2 ^ p.shift.toNat) 127
theorem aj {x : List Int} (h1 : 1 ≤ x.length) (h2 : x.length ≤ 8) : G4 (EO x) = true := by
 have hs : Im x ≤ 4 := by
  unfold Im
  repeat (first | omega | split)
 unfold G4 EO
 simp only [Bool.and_eq_true]
 refine ⟨?_, ?_, ?_⟩
 ·rw [inI, Bool.and_eq_true]; exact ⟨decide_eq_true (by omega), decide_eq_true (by omega)⟩
 ·rw [inI, Bool.and_eq_true]
  have : (FE x (Im x)).length = x.length := by simp [FE]
  exact ⟨decide_eq_true (by omega), decide_eq_true (by omega)⟩
 ·refine BM (n := 15) (fun y hy => ?_) (by omega)
  obtain ⟨n, _, rfl⟩ := List.mem_map.1 hy
  exact EY (by omega)
theorem Jr {p : At} : (Dz p).length = p.values.length := by simp [Dz]
theorem UG {p : At} : Ay 127 (Dz p) := fun y hy => by
 obtain ⟨n, _, rfl⟩ := List.mem_map.1 hy
 exact EY (by omega)
def ft (q k : List Int) : Int := Aq (fun i => q.getD i default * k.getD i default) q.length
def BI (q k : List Int) : Int := ft q k / 16
def Jd (x y : List Int) : List Int := (List.range x.length).map fun i => Gz (x.getD i default + y.getD i default) 500
theorem Hb {x y : List Int} : (Jd x y).length = x.length := by simp [Jd]
theorem LX {x y : List Int} : Ay 500 (Jd x y) := fun z hz => by
 obtain ⟨n, _, rfl⟩ := List.mem_map.1 hz
 exact EY (by omega)
def C6 (x : Int) : Int := x * (128 + Gz x 128) / 256
end Go.Bi
end
section
namespace Go.Bi
open Go.Proofs
def Gk (x : Int) : Int := if x < -4000 then 0 else if x > 0 then 256 else (256 - (-x) % 177 + ((-x) % 177) * ((-x) % 177) / 512) / 2 ^ ((-x) / 177).toNat
theorem UP : Gk 0 = 256 := by decide
theorem Yz {x : Int} : 0 ≤ Gk x ∧ Gk x ≤ 256 := by
 unfold Gk
 split
 ·omega
 ·split
  ·omega
  ·have h1 : 0 ≤ (-x) % 177 ∧ (-x) % 177 < 177 := by omega
   generalize (-x) % 177 = r at *
   have h2 : 0 ≤ r * r ∧ r * r ≤ 176 * 176 := by
    have := Br (x := r) (y := r) (a := 176) (b := 176) (by omega) (by omega)
    have := Int.mul_nonneg h1.1 h1.1
    omega
   have h3 : 0 ≤ 256 - r + r * r / 512 ∧ 256 - r + r * r / 512 ≤ 256 := by
    constructor
    ·omega
    ·have h4 : r * r ≤ 176 * r := Int.mul_le_mul_of_nonneg_right (by omega) h1.1
     omega
   have h5 : (0 : Int) < 2 ^ ((-x) / 177).toNat := Int.pow_pos (by omega)
   refine ⟨Int.ediv_nonneg h3.1 (by omega), ?_⟩
   exact Int.le_trans (Int.ediv_le_self _ h3.1) h3.2
def HB (l : List Int) : Int := l.foldl max (l.getD 0 default)
def A6 (l : List Int) : List Int := l.map fun n => Gk (n - HB l)
def Bp (l : List Int) : List Int := (A6 l).map fun e => e * 256 / Aq (fun i => (A6 l).getD i default) l.length
theorem BP {l : List Int} : (Bp l).length = l.length := by simp [Bp, A6]
def Mj (sh : List Int) (vs : List (List Int)) (size : Nat) : List Int := (List.range size).map fun k => Gz (Aq (fun i => sh.getD i default * (vs.getD i default).getD k default) sh.length / 256) 127
theorem HA {sh : List Int} {vs : List (List Int)} {size : Nat} : (Mj sh vs size).length = size := by simp [Mj]
theorem We {sh : List Int} {vs : List (List Int)} {size : Nat} : Ay 127 (Mj sh vs size) := fun y hy => by
 obtain ⟨n, _, rfl⟩ := List.mem_map.1 hy
 exact EY (by omega)
def Hl (q : List Int) (ks vs : List (List Int)) : List Int := Mj (Bp (ks.map fun k => BI q k)) vs q.length
def Aa (l : List (List At)) (h : Nat) : List (List Int) := l.map fun ps => Dz (ps.getD h default)
def AW (m : AM) : Nat := m.dim.toNat / m.heads.toNat
def DW (m : AM) (place : Nat) (x : List Int) : List Int := DR (m.turns.cos.getD place default) (m.turns.sin.getD place default) (AW m) x
def Df (m : AM) (l : Aj) (place : Nat) (x : List Int) : List At := (List.range m.heads.toNat).map fun h => EO (A2 (DW m place (Ad l.k (Ah x l.gain1))) (AW m) h)
def DY (m : AM) (l : Aj) (x : List Int) : List At := (List.range m.heads.toNat).map fun h => EO (A2 (Ad l.v (Ah x l.gain1)) (AW m) h)
def JI (m : AM) (q : List Int) (ks vs : List (List At)) : List Int := (List.range m.heads.toNat).flatMap fun h => Hl (A2 q (AW m) h) (Aa ks h) (Aa vs h)
def Kf (m : AM) (l : Aj) (place : Nat) (x : List Int) (ks vs : List (List At)) : List Int := Jd x (Ad l.o (JI m (DW m place (Ad l.q (Ah x l.gain1))) ks vs))
def Mh (m : AM) (l : Aj) (place : Nat) (x : List Int) (ks vs : List (List At)) : List Int :=
 Jd (Kf m l place x ks vs) (Ad l.down ((Ad l.up (Ah (Kf m l place x ks vs) l.gain2)).map C6))
def BU (m : AM) (past : List BS) (t : Nat) : Nat → List Int × BS
 | 0 => (m.embed.getD t default, ⟨[], []⟩)
 | n + 1 =>
  let r := BU m past t n
  let l := m.layers.getD n default
  (Mh m l past.length r.1 (past.map (fun c => c.keys.getD n default) ++ [Df m l past.length r.1]) (past.map (fun c => c.values.getD n default) ++ [DY m l r.1]),
   ⟨r.2.keys ++ [Df m l past.length r.1], r.2.values ++ [DY m l r.1]⟩)
def Bb (m : AM) (past : List BS) (t : Nat) : BS := (BU m past t m.layers.length).2
def Bn (m : AM) (past : List BS) (t : Nat) : List Int := Az m.head (Ah (BU m past t m.layers.length).1 m.gainEnd)
def AS (m : AM) (ts : List Int) : Nat → List BS
 | 0 => []
 | n + 1 => AS m ts n ++ [Bb m (AS m ts n) (ts.getD n default).toNat]
theorem BO {m : AM} {ts : List Int} : ∀ {n : Nat}, (AS m ts n).length = n
 | 0 => rfl
 | n + 1 => by rw [AS, List.length_append, BO]; rfl
end Go.Bi
end
