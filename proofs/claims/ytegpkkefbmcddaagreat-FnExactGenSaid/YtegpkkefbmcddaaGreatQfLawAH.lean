/- Own lemmas that the theorem of this claim needs: the abstract machine and walks of functions. -/
import Derived.Test.YtegpkkefbmcddaaGreatQfLawAG
set_option linter.unusedSimpArgs false
set_option linter.unusedVariables false
open Nat renaming reduceBEq → sQ1, reduceAdd → sQ2, reduceLeDiff → sQ3, reduceMul → sQ4
open Int renaming reduceLE → sQ5, reduceLT → sQ6, reduceBEq → sQ7
section
set_option maxRecDepth 20000
namespace Go.Bi
open Go.Proofs
open Go.Ai (wrap_i64 wrap_u64 wrap_u8)
variable {W0 : World}
theorem Av (x : Nat) : (x == x) = true := by simp
theorem CN (k : Nat) : ((0 : Int) ≤ (k : Int)) = True := eq_true (Int.natCast_nonneg k)
theorem AU {k n : Nat} (hk : k < n) (hn : n ≤ 9223372036854775807) : IntKind.i64.wrap ((k : Int) + 1) = ((k + 1 : Nat) : Int) := by rw [wrap_i64] <;> omega
theorem iH (b : ByteArray) : (b.toList == b.toList) = true := by simp
attribute [go_sem] Av iH CN Int.toNat_natCast eq_self not_true_eq_false Int.natCast_zero true_and and_true
variable {P : Program} {K : KT}
def eT : Option Go.Ai.Cls → Bool
 | some (.int .u8) => true
 | _ => false
theorem dj : eT (some (.int .u8)) = true := rfl
def dg (o : Option (List UInt8)) (h : H2) : Option (X × H2) := match o with | some bs => some (.raw (.string ⟨bs.toArray⟩), h) | none => none
theorem Vs {bs : List UInt8} {h : H2} : dg (some bs) h = some (.raw (.string ⟨bs.toArray⟩), h) := rfl
theorem dO {s d : TypeId} {h : H2} {x : X} {n : Nat} {l : List X} (hs : Go.Ai.cls? P s = some .sl) (hd : Go.Ai.cls? P d = some .str) (he : (Go.Ai.elt? P s).isSome = true) (hz : (Go.Ai.eltZ (Go.Ai.elt? P s) == 1) = true) (hc : eT (Go.Ai.cls? P (Go.Ai.eltT (Go.Ai.elt? P s))) = true)
  (hx : E0 h 1 x = some (n, l)) : NZ P h s d x .mk = dg (Dr l) h := by
 simp only [NZ, NH, hs, hd]
 cases hq : Go.Ai.elt? P s with
 | none => rw [hq] at he; cases he
 | some q =>
  obtain ⟨u, z, b⟩ := q
  rw [hq] at hz hc
  simp only [Go.Ai.eltZ, beq_iff_eq] at hz
  subst hz
  simp only [hx]
  simp only [Go.Ai.eltT] at hc
  cases hu : Go.Ai.cls? P u with
  | none => rw [hu] at hc; cases hc
  | some c =>
   rw [hu] at hc
   cases c <;> try cases hc
   rename_i k
   cases k <;> try cases hc
   cases Dr l <;> rfl
theorem Wq {s d : TypeId} {h : H2} {f : AQ} {es : List (List T)} (hs : Go.Ai.cls? P s = some .sl) (hd : Go.Ai.cls? P d = some .str) (he : (Go.Ai.elt? P s).isSome = true) (hz : (Go.Ai.eltZ (Go.Ai.elt? P s) == 1) = true) (hc : eT (Go.Ai.cls? P (Go.Ai.eltT (Go.Ai.elt? P s))) = true) :
    NZ P h s d (.sl f 1 es) .mk = dg (Dr (CC f 0 es)) h := dO hs hd he hz hc rfl
theorem XJ {f : AQ} {i : Nat} : CC f i [] = [] := rfl
theorem Ut {f : AQ} {i : Nat} {e : List T} {r : List (List T)} : CC f i (e :: r) = Gv (under f i) 0 e ++ CC f (i + 1) r := rfl
def gi (b : UInt8) (o : Option (List UInt8)) : Option (List UInt8) := match o with | some r => some (b :: r) | none => none
theorem W1 {b : UInt8} {r : List UInt8} : gi b (some r) = some (b :: r) := rfl
theorem eQ : Dr [] = some [] := rfl
theorem au {x : Int} {l : List X} : Dr (.raw (.int .u8 x) :: l) = gi (UInt8.ofNat x.toNat) (Dr l) := by simp only [Dr, Go.Ai.byteV, gi]; cases Dr l <;> rfl
attribute [go_sem] dj Vs Wq XJ Ut W1 eQ au List.cons_append List.nil_append
def inI (x a b : Int) : Bool := decide (a ≤ x) && decide (x ≤ b)
theorem Ab {x a b : Int} {h : H2} : A7 Tryz.prog W0 101 [.raw (.int .i64 x), .raw (.int .i64 a), .raw (.int .i64 b)] h (fun v h' => v = .raw (.bool (inI x a b)) ∧ h' = h) := by
 refine AH [[0, 1, 2], [0, 1, 2]] Tryz.func101 rfl (rs := [.tmp 6]) rfl rfl ?_
 intro wf
 refine zr ?_
 refine AN (fun h1 => ?_) (fun h1 => ?_)
 ·refine A1 h1 ?_
  exact ⟨by simp [inI, h1], rfl⟩
 ·refine A1 h1 ?_
  exact ⟨by simp [inI, h1], rfl⟩
theorem BQ {x a b : Int} {h : H2} : A7 Tryz.prog W0 118 [.raw (.int .i64 x), .raw (.int .i64 a), .raw (.int .i64 b)] h (fun v h' => v = .raw (.bool (inI x a b)) ∧ h' = h) := by
 refine AH [[0, 1, 2], [0, 1, 2]] Tryz.func118 rfl (rs := [.tmp 6]) rfl rfl ?_
 intro wf
 refine zr ?_
 refine AN (fun h1 => ?_) (fun h1 => ?_)
 ·refine A1 h1 ?_
  exact ⟨by simp [inI, h1], rfl⟩
 ·refine A1 h1 ?_
  exact ⟨by simp [inI, h1], rfl⟩
theorem Ju {F : FuncId} {p : Int → Bool} {caps : List Value} {f : AQ} {ss : List Int} {h : H2} (hn0 : ss.length ≤ 9223372036854775807)
  (hf : ∀ s, A7 Tryz.prog W0 F ([.raw (.int .i64 s)] ++ caps.map .raw) h (fun v h' => v = .raw (.bool (p s)) ∧ h' = h)) :
  A7 Tryz.prog W0 214 [.sl f 1 (ints ss), .raw (.func (.func F) #[] caps.toArray)] h (fun v h' => (∃ k : Int, v = .raw (.int .i64 k) ∧ decide (0 ≤ k) = ss.any p) ∧ h' = h) := by
 refine AH [[0, 1], [0, 1], [0, 1, 7, 8], [0, 1, 7, 8], [0, 1, 5, 7, 8], [5], [0, 1, 7, 8], []] Tryz.func214 rfl (rs := [.tmp 4]) rfl rfl ?_
 intro wf
 refine zr ?_
 refine DZ (fun m e h' => h' = h ∧ look e 0 .mk = .sl f 1 (ints ss) ∧ look e 1 .mk = .raw (.func (.func F) #[] caps.toArray) ∧ look e 7 .mk = .raw (.int .i64 ss.length) ∧ ∃ k : Nat, look e 8 .mk = .raw (.int .i64 k) ∧ m + k = ss.length ∧ ∀ j : Nat, j < k → p (ss.getD j default) = false) ss.length ?_ ?_
 ·refine ⟨rfl, ?_, ?_, ?_, 0, ?_, by omega, fun j hj => by omega⟩ <;> simp -dsimp -implicitDefEqProofs only [go_sem, sQ1, Int.natCast_zero]
 ·rintro m e h ⟨rfl, e0, e1, e7, k, e8, hk, hpre⟩
  refine Cu e0 e1 e7 e8 ?_
  refine AN (fun h2 => ?_) (fun h2 => ?_)
  ·have h3 : k < ss.length := by omega
   repeat (first | rw [ko] | rw [kr] | simp -dsimp -implicitDefEqProofs only [go_sem, sQ1, CN, Int.toNat_natCast, h3])
   refine AA (hf _) ?_
   rintro _ h' ⟨rfl, rfl⟩
   refine zr ?_
   refine EA (fun h4 => ?_) (fun h4 => ?_)
   ·refine zr ?_
    refine ⟨⟨_, rfl, ?_⟩, rfl⟩
    have : ss.any p = true := List.any_eq_true.2 ⟨_, List.getElem_mem h3, by rw [List.getD_eq_getElem?_getD, List.getElem?_eq_getElem h3] at h4; exact h4⟩
    rw [this]; simp
   ·refine A1 (AU h3 hn0) ?_
    refine ⟨m - 1, by omega, rfl, ?_, ?_, ?_, k + 1, ?_, by omega, ?_⟩
    ·simp -dsimp -implicitDefEqProofs only [go_sem, sQ1]
    ·simp -dsimp -implicitDefEqProofs only [go_sem, sQ1]
    ·simp -dsimp -implicitDefEqProofs only [go_sem, sQ1]
    ·simp -dsimp -implicitDefEqProofs only [go_sem]
    ·intro j hj
     by_cases hji : j = k
     ·subst hji; exact h4
     ·exact hpre j (by omega)
  ·refine zr ?_
   refine ⟨⟨_, rfl, ?_⟩, rfl⟩
   have : ss.any p = false := by
    rw [List.any_eq_false]
    intro x hx
    obtain ⟨j, hj, rfl⟩ := List.getElem_of_mem hx
    have := hpre j (by omega)
    rw [List.getD_eq_getElem?_getD, List.getElem?_eq_getElem hj] at this
    simpa using this
   rw [this]; rfl
end Go.Bi
end
section
set_option maxRecDepth 20000
namespace Go.Bi
open Go.Proofs
open Go.Ai (wrap_i64 wrap_u64 wrap_u8)
variable {W0 : World}
variable {P : Program} {D : Nat → Option (List Nat)} {e : E2} {K : KT}
theorem Eo {h : H2} {t u z y : Nat} {zs : List Value} {l : Int} (he : Ai.elt? P t = some (u, z, y)) (hz : Ai.zr? P u = some zs) (h1 : zs.length = z ∧ 0 < z) (h2 : 0 ≤ l ∧ l.toNat * (y + 1) ≤ Ai.most)
  (hk : kz K (.raw (.slice (some ⟨hn h .mk, 0, none⟩) l.toNat l.toNat)) (h.push ⟨z, (Ai.repL l.toNat zs).map .raw⟩) .mk) : az (TO P h t (.raw (.int .i64 l)) (.raw (.int .i64 l)) .mk) K .mk := by
 have : TO P h t (.raw (.int .i64 l)) (.raw (.int .i64 l)) .mk = some (.raw (.slice (some ⟨h.n, 0, none⟩) l.toNat l.toNat), h.push ⟨z, (Ai.repL l.toNat zs).map .raw⟩) := by
  simp only [TO, El, he, hz]
  rw [if_pos ⟨h1.1, h1.2, trivial, h2.1, h2.2⟩]
 rw [this]; exact hk
theorem H0 {cs : List X} {o : Nat} {v : X} (ho : o < cs.length) : Cv cs o [v] = some (cs.set o v) := by
 simp only [Cv, List.length_cons, List.length_nil]
 rw [if_pos (by omega)]
 congr 1
 rw [List.set_eq_take_append_cons_drop, if_pos ho]
 simp
theorem H2.le_push1 (h : H2) (k : OB) : h.le (h.push k) := le_push (H2.le.refl h)
theorem set_push {h : H2} {k k' : OB} : (h.push k).set (hn h .mk) k' = h.push k' := by
 unfold H2.set H2.push hn; congr 1; funext x; by_cases hx : x = h.n <;> simp [hx]
theorem set_set {h : H2} {b : Nat} {k k' : OB} : (h.set b k).set b k' = h.set b k' := by
 unfold H2.set; congr 1; funext x; by_cases hx : x = b <;> simp [hx]
def eS (s : ByteArray) : List T := [.v (.string s)]
theorem cC {s : ByteArray} : eS s = [.v (.string s)] := rfl
def strs (ss : List ByteArray) : List (List T) := ss.map eS
theorem W2 {ss : List ByteArray} : (strs ss).length = ss.length := by simp [strs]
theorem aF {ss : List ByteArray} {i : Nat} (hi : i < ss.length) : el (strs ss) i = eS (ss.getD i default) := Gg hi
attribute [go_sem] cC W2 aF set_push set_set
theorem Vu {f : AQ} {zs : List Int} {left : Int} {h : H2} (hn0 : zs.length ≤ 9223372036854775807) (hl : 0 ≤ left ∧ left ≤ 1048576) : A7 Tryz.prog W0 44 [.sl f 1 (ints zs), .raw (.int .i64 left)] h (fun v h' => (∃ k : Int, v = .raw (.int .i64 k) ∧ (0 ≤ k → (zs.length : Int) + k ≤ left)) ∧ h' = h) := by
 have hw : IntKind.i64.wrap (left - zs.length) = left - zs.length := by rw [wrap_i64] <;> omega
 refine AH [[0, 1], [0, 1], [1], [], [1]] Tryz.func44 rfl (rs := [.tmp 4]) rfl rfl ?_
 intro wf
 refine A1 hw ?_
 refine AN (fun h1 => ?_) (fun h1 => ?_)
 ·refine zr ?_
  exact ⟨⟨_, rfl, fun hh => by omega⟩, rfl⟩
 ·refine zr ?_
  exact ⟨⟨_, rfl, fun hh => by omega⟩, rfl⟩
theorem UR {f : AQ} {zs : List Int} {h : H2} (hn0 : zs.length ≤ 1048576) :
  A7 Tryz.prog W0 26 [.sl f 1 (ints zs)] h (fun v h' => h.le h' ∧ Own (hn h .mk) h' v 1 zs.length (zs.map (fun (z : Int) => X.raw (.int .i64 z)))) := by
 refine AH [[0], [0], [0, 3], [0, 3, 4], [0, 3, 4], [0, 3, 4], [3]] Tryz.func26 rfl (rs := [.tmp 2]) rfl rfl ?_
 intro wf
 refine zr ?_
 refine Eo Ai.ty_el25 Ai.ty_zr3 (by decide) ⟨by omega, by simp only [Int.toNat_natCast]; have : Ai.most = 1099511627776 := rfl; omega⟩ ?_
 refine zr ?_
 refine AJ [0, 3] (fun m e h' => ∃ (k : Nat) (cs : List X), look e 4 .mk = .raw (.int .i64 k) ∧ m + k = zs.length ∧ h' = h.push ⟨1, cs⟩ ∧ cs.length = zs.length ∧ ∀ j : Nat, j < k → cs[j]? = (zs.map (fun (z : Int) => X.raw (.int .i64 z)))[j]?) zs.length ?_ ?_
 ·exact ⟨0, _, by simp -dsimp -implicitDefEqProofs only [go_sem, Int.natCast_zero], by omega, rfl, by simp [Ai.rep_one], fun j hj => by omega⟩
 ·rintro m e h' hks ⟨k, cs, e4, hk, rfl, hcs, hpre⟩
  simp -dsimp -implicitDefEqProofs only [go_sem] at hks
  refine C5 hks e4 ?_
  refine AN (fun h2 => ?_) (fun h2 => ?_)
  ·have h3 : k < zs.length := by omega
   have hw2 : Cv cs k [.raw (.int .i64 (zs.getD k default))] = some (cs.set k (.raw (.int .i64 (zs.getD k default)))) := H0 (by omega)
   have hi2 : (0 : Int) ≤ (k : Int) ∧ (k : Int) < (zs.length : Int) := by omega
   repeat (first | rw [ko] | rw [kr] | simp -dsimp -implicitDefEqProofs only [go_sem, sQ1, Int.toNat_natCast, h3, Av, hw2, hi2, AU h3 (by omega)])
   refine AI (m - 1) (by omega) AL ⟨k + 1, _, AL, by omega, rfl, by simpa using hcs, ?_⟩
   intro j hj
   by_cases hji : j = k
   ·subst hji
    rw [List.getElem?_set_self (by omega), List.getElem?_map, List.getD_eq_getElem?_getD, List.getElem?_eq_getElem h3]; rfl
   ·rw [List.getElem?_set_ne (fun e => hji e.symm)]
    exact hpre j (by omega)
  ·refine zr ?_
   refine ⟨H2.le_push1 h _, ?_⟩
   have : cs = zs.map (fun (z : Int) => X.raw (.int .i64 z)) := by
    apply List.ext_getElem?
    intro j
    by_cases hj : j < k
    ·exact hpre j hj
    ·rw [List.getElem?_eq_none (by omega), List.getElem?_eq_none (by simp; omega)]
   rw [this]
   exact Own.new (Nat.le_refl _) (by simp)
theorem U9 {f f' : AQ} {zs : List Int} {h : H2} (hn0 : zs.length ≤ 9223372036854775807) :
  A7 Tryz.prog W0 16 [.sl f 1 (ints zs), .sl f' 1 (ints zs)] h (fun v h' => v = .raw (.bool true) ∧ h' = h) := by
 refine AH [[0, 1], [0, 1], [], [0, 1], [0, 1, 5], [0, 1, 5], [0, 1, 5], [], []] Tryz.func16 rfl (rs := [.tmp 4]) rfl rfl ?_
 intro wf
 refine zr ?_
 refine AJ [0, 1] (fun m e h' => h' = h ∧ ∃ k : Nat, look e 5 .mk = .raw (.int .i64 k) ∧ m + k = zs.length) zs.length ?_ ?_
 ·exact ⟨rfl, 0, by simp -dsimp -implicitDefEqProofs only [go_sem, Int.natCast_zero], by omega⟩
 ·rintro m e h hks ⟨rfl, k, e5, hk⟩
  simp -dsimp -implicitDefEqProofs only [go_sem, sQ1] at hks
  refine C5 hks e5 ?_
  refine AN (fun h2 => ?_) (fun h2 => ?_)
  ·have h3 : k < zs.length := by omega
   refine zr ?_
   refine AO [(0, []), (1, []), (2, []), (3, []), (4, []), (5, []), (6, []), (7, []), (8, [])] (by kernel_rfl) ?_
   repeat (first | rw [ko] | rw [kr] | simp -dsimp -implicitDefEqProofs only [go_sem, sQ1, CN, Int.toNat_natCast, h3, Av, not_true_eq_false, AU h3 hn0])
   exact AI (m - 1) (by omega) AL ⟨rfl, k + 1, AL, by omega⟩
  ·refine zr ?_
   exact ⟨rfl, rfl⟩
theorem PD {f : AQ} {zs : List ByteArray} {h : H2} (hn0 : zs.length ≤ 1048576) :
  A7 Tryz.prog W0 89 [.sl f 1 (strs zs)] h (fun v h' => h.le h' ∧ Own (hn h .mk) h' v 1 zs.length (zs.map (fun (z : ByteArray) => X.raw (.string z)))) := by
 refine AH [[0], [0], [0, 3], [0, 3, 4], [0, 3, 4], [0, 3, 4], [3]] Tryz.func89 rfl (rs := [.tmp 2]) rfl rfl ?_
 intro wf
 refine zr ?_
 refine Eo Ai.ty_el65 Ai.ty_zr9 (by decide) ⟨by omega, by simp only [Int.toNat_natCast]; have : Ai.most = 1099511627776 := rfl; omega⟩ ?_
 refine zr ?_
 refine AJ [0, 3] (fun m e h' => ∃ (k : Nat) (cs : List X), look e 4 .mk = .raw (.int .i64 k) ∧ m + k = zs.length ∧ h' = h.push ⟨1, cs⟩ ∧ cs.length = zs.length ∧ ∀ j : Nat, j < k → cs[j]? = (zs.map (fun (z : ByteArray) => X.raw (.string z)))[j]?) zs.length ?_ ?_
 ·exact ⟨0, _, by simp -dsimp -implicitDefEqProofs only [go_sem, Int.natCast_zero], by omega, rfl, by simp [Ai.rep_one], fun j hj => by omega⟩
 ·rintro m e h' hks ⟨k, cs, e4, hk, rfl, hcs, hpre⟩
  simp -dsimp -implicitDefEqProofs only [go_sem] at hks
  refine C5 hks e4 ?_
  refine AN (fun h2 => ?_) (fun h2 => ?_)
  ·have h3 : k < zs.length := by omega
   have hw2 : Cv cs k [.raw (.string (zs.getD k default))] = some (cs.set k (.raw (.string (zs.getD k default)))) := H0 (by omega)
   have hi2 : (0 : Int) ≤ (k : Int) ∧ (k : Int) < (zs.length : Int) := by omega
   repeat (first | rw [ko] | rw [kr] | simp -dsimp -implicitDefEqProofs only [go_sem, sQ1, Int.toNat_natCast, h3, Av, hw2, hi2, AU h3 (by omega)])
   refine AI (m - 1) (by omega) AL ⟨k + 1, _, AL, by omega, rfl, by simpa using hcs, ?_⟩
   intro j hj
   by_cases hji : j = k
   ·subst hji
    rw [List.getElem?_set_self (by omega), List.getElem?_map, List.getD_eq_getElem?_getD, List.getElem?_eq_getElem h3]; rfl
   ·rw [List.getElem?_set_ne (fun e => hji e.symm)]
    exact hpre j (by omega)
  ·refine zr ?_
   refine ⟨H2.le_push1 h _, ?_⟩
   have : cs = zs.map (fun (z : ByteArray) => X.raw (.string z)) := by
    apply List.ext_getElem?
    intro j
    by_cases hj : j < k
    ·exact hpre j hj
    ·rw [List.getElem?_eq_none (by omega), List.getElem?_eq_none (by simp; omega)]
   rw [this]
   exact Own.new (Nat.le_refl _) (by simp)
theorem O3 {f f' : AQ} {zs : List ByteArray} {h : H2} (hn0 : zs.length ≤ 9223372036854775807) :
  A7 Tryz.prog W0 92 [.sl f 1 (strs zs), .sl f' 1 (strs zs)] h (fun v h' => v = .raw (.bool true) ∧ h' = h) := by
 refine AH [[0, 1], [0, 1], [], [0, 1], [0, 1, 5], [0, 1, 5], [0, 1, 5], [], []] Tryz.func92 rfl (rs := [.tmp 4]) rfl rfl ?_
 intro wf
 refine zr ?_
 refine AJ [0, 1] (fun m e h' => h' = h ∧ ∃ k : Nat, look e 5 .mk = .raw (.int .i64 k) ∧ m + k = zs.length) zs.length ?_ ?_
 ·exact ⟨rfl, 0, by simp -dsimp -implicitDefEqProofs only [go_sem, Int.natCast_zero], by omega⟩
 ·rintro m e h hks ⟨rfl, k, e5, hk⟩
  simp -dsimp -implicitDefEqProofs only [go_sem, sQ1] at hks
  refine C5 hks e5 ?_
  refine AN (fun h2 => ?_) (fun h2 => ?_)
  ·have h3 : k < zs.length := by omega
   refine zr ?_
   refine AO [(0, []), (1, []), (2, []), (3, []), (4, []), (5, []), (6, []), (7, []), (8, [])] (by kernel_rfl) ?_
   repeat (first | rw [ko] | rw [kr] | simp -dsimp -implicitDefEqProofs only [go_sem, sQ1, CN, Int.toNat_natCast, h3, Av, iH, AU h3 hn0])
   exact AI (m - 1) (by omega) AL ⟨rfl, k + 1, AL, by omega⟩
  ·refine zr ?_
   exact ⟨rfl, rfl⟩
def DF (k : Int) (n : Nat) : List Int := (List.range n).map fun (j : Nat) => k + (j : Int)
theorem Hh {k : Int} {n : Nat} : (DF k n).length = n := by simp [DF]
theorem Up {k : Int} {n j : Nat} (hj : j < n) : (DF k n).getD j default = k + j := by
 rw [List.getD_eq_getElem?_getD, DF, List.getElem?_map, List.getElem?_range hj]; rfl
theorem Qh {f : AQ} {n : Nat} {k0 : Int} {h : H2} (hn0 : n ≤ 9223372036854775807) (hk0 : 0 ≤ k0 ∧ k0 + n ≤ 9223372036854775807) :
  A7 Tryz.prog W0 24 [.sl f 1 (ints (DF k0 n)), .raw (.int .i64 k0)] h (fun v h' => v = .raw (.int .i64 (k0 + n)) ∧ h' = h) := by
 refine AH [[0, 1], [0, 1], [0, 1, 5], [0, 1, 5], [0, 1, 5], [], [0, 1, 5], [1]] Tryz.func24 rfl (rs := [.tmp 4]) rfl rfl ?_
 intro wf
 refine zr ?_
 refine AJ [0] (fun m e h' => h' = h ∧ ∃ k : Nat, look e 5 .mk = .raw (.int .i64 k) ∧ look e 1 .mk = .raw (.int .i64 (k0 + k)) ∧ m + k = n) n ?_ ?_
 ·exact ⟨rfl, 0, by simp -dsimp -implicitDefEqProofs only [go_sem, Int.natCast_zero], by simp -dsimp -implicitDefEqProofs only [go_sem, Int.natCast_zero, Int.add_zero], by omega⟩
 ·rintro m e h hks ⟨rfl, k, e5, e1, hk⟩
  simp -dsimp -implicitDefEqProofs only [go_sem, sQ1] at hks
  repeat (first | rw [ko] | rw [kr] | simp -dsimp -implicitDefEqProofs only [go_sem, sQ1, hks, e5, e1, Hh])
  refine AN (fun h2 => ?_) (fun h2 => ?_)
  ·have h3 : k < n := by omega
   have hw : IntKind.i64.wrap (k0 + k + 1) = k0 + ((k + 1 : Nat) : Int) := by rw [wrap_i64] <;> omega
   repeat (first | rw [ko] | rw [kr] | simp -dsimp -implicitDefEqProofs only [go_sem, sQ1, Hh, CN, Int.toNat_natCast, h3, Up h3, eq_self, not_true_eq_false, AU h3 hn0, hw])
   exact AI (m - 1) (by omega) AL ⟨rfl, k + 1, AL, AL, by omega⟩
  ·refine zr ?_
   have : k = n := by omega
   subst this
   exact ⟨rfl, rfl⟩
theorem P9 {N : Nat} {v : X} {zs : List Int} {h : H2} {k0 : Int} (o : Al N h v zs) (hn0 : zs.length ≤ 9223372036854775807) (hk0 : 0 ≤ k0 ∧ k0 + zs.length ≤ 9223372036854775807) :
  A7 Tryz.prog W0 22 [v, .raw (.int .i64 k0)] h (fun r h' => r = .raw (.int .i64 (k0 + zs.length)) ∧ Al N h' v (DF k0 zs.length) ∧ hn h' .mk = hn h .mk ∧ ∀ b, AP v ≠ some b → h'.get b = h.get b) := by
 obtain ⟨hlen, hcase⟩ := o
 rcases hcase with ⟨rfl, h0⟩ | ⟨b, rfl, hNb, hbn, hb⟩
 ·have : zs = [] := List.eq_nil_of_length_eq_zero h0
  subst this
  refine AH [[0, 1], [0, 1], [0, 1, 5], [0, 1, 5], [0, 1, 5], [0, 1, 5], [1]] Tryz.func22 rfl (rs := [.tmp 4]) rfl rfl ?_
  intro wf
  refine zr ?_
  refine AJ [0] (fun m e h' => h' = h ∧ look e 5 .mk = .raw (.int .i64 0) ∧ look e 1 .mk = .raw (.int .i64 k0)) 0 ?_ ?_
  ·exact ⟨rfl, AL, AL⟩
  ·rintro m e h hks ⟨rfl, e5, e1⟩
   simp -dsimp -implicitDefEqProofs only [go_sem, sQ1] at hks
   repeat (first | rw [ko] | rw [kr] | simp -dsimp -implicitDefEqProofs only [go_sem, sQ1, hks, e5, e1, Int.natCast_zero, Int.lt_irrefl])
   exact ⟨by simp, ⟨by simp, .inl ⟨rfl, rfl⟩⟩, rfl, fun _ _ => rfl⟩
 ·refine AH [[0, 1], [0, 1], [0, 1, 5], [0, 1, 5], [0, 1, 5], [0, 1, 5], [1]] Tryz.func22 rfl (rs := [.tmp 4]) rfl rfl ?_
  intro wf
  refine zr ?_
  refine AJ [0] (fun m e h' => ∃ (k : Nat) (cs : List X), look e 5 .mk = .raw (.int .i64 k) ∧ look e 1 .mk = .raw (.int .i64 (k0 + k)) ∧ m + k = zs.length ∧ hn h' .mk = hn h .mk ∧ hg h' b .mk = some ⟨1, cs⟩ ∧ (∀ c, c ≠ b → h'.get c = h.get c) ∧ cs.length = zs.length ∧ ∀ j : Nat, j < k → cs[j]? = some (cI (k0 + j))) zs.length ?_ ?_
  ·exact ⟨0, _, by simp -dsimp -implicitDefEqProofs only [go_sem, Int.natCast_zero], by simp -dsimp -implicitDefEqProofs only [go_sem, Int.natCast_zero, Int.add_zero], by omega, rfl, hb, fun _ _ => rfl, by simp, fun j hj => by omega⟩
  ·rintro m e h' hks ⟨k, cs, e5, e1, hk, hnn, hrow, hoth, hl, hpre⟩
   simp -dsimp -implicitDefEqProofs only [go_sem, sQ1] at hks
   refine DH hks e5 e1 ?_
   refine AN (fun h2 => ?_) (fun h2 => ?_)
   ·have h3 : k < zs.length := by omega
    have hw2 : Cv cs k [.raw (.int .i64 (k0 + k))] = some (cs.set k (.raw (.int .i64 (k0 + k)))) := H0 (by omega)
    have hi2 : (0 : Int) ≤ (k : Int) ∧ (k : Int) < (zs.length : Int) := by omega
    have hw : IntKind.i64.wrap (k0 + k + 1) = k0 + ((k + 1 : Nat) : Int) := by rw [wrap_i64] <;> omega
    repeat (first | rw [ko] | rw [kr] | simp -dsimp -implicitDefEqProofs only [go_sem, sQ1, hrow, Int.toNat_natCast, Av, hw2, hi2, AU h3 hn0, hw])
    refine AI (m - 1) (by omega) AL ⟨k + 1, cs.set k (.raw (.int .i64 (k0 + k))), AL, AL, by omega, hnn, by simp -dsimp -implicitDefEqProofs only [go_sem, Av], fun c hc => ?_, by simpa using hl, ?_⟩
    ·show (if c = b then _ else h'.get c) = _
     rw [if_neg hc]; exact hoth c hc
    ·intro j hj
     by_cases hji : j = k
     ·subst hji; rw [List.getElem?_set_self (by omega)]; rfl
     ·rw [List.getElem?_set_ne (fun e => hji e.symm)]; exact hpre j (by omega)
   ·refine zr ?_
    have : k = zs.length := by omega
    subst this
    refine ⟨rfl, ⟨by simp [Hh], .inr ⟨b, by rw [Hh], hNb, by omega, ?_⟩⟩, hnn, fun c hc => hoth c fun e => hc (by rw [e]; rfl)⟩
    rw [hrow]
    congr 2
    apply List.ext_getElem?
    intro j
    by_cases hj : j < zs.length
    ·rw [hpre j hj, DF, List.map_map, List.getElem?_map, List.getElem?_range hj]; rfl
    ·rw [List.getElem?_eq_none (by omega), List.getElem?_eq_none (by simp [DF]; omega)]
def OX (ss : List ByteArray) : Nat := (ss.map ByteArray.size).sum
theorem VQ {ss : List ByteArray} {k : Nat} (hk : k < ss.length) : OX (ss.take (k + 1)) = OX (ss.take k) + (ss.getD k default).size := by
 unfold OX
 rw [List.take_succ_eq_append_getElem hk, List.getD_eq_getElem?_getD, List.getElem?_eq_getElem hk, List.map_append, List.sum_append]; rfl
theorem O6 {f : AQ} {zs : List ByteArray} {left : Int} {h : H2} (hn0 : zs.length ≤ 9223372036854775807) (hs0 : ∀ s ∈ zs, s.size ≤ 9223372036854775807) (hl : 0 ≤ left ∧ left ≤ 1048576) :
  A7 Tryz.prog W0 86 [.sl f 1 (strs zs), .raw (.int .i64 left)] h (fun v h' => (∃ k : Int, v = .raw (.int .i64 k) ∧ (0 ≤ k → (zs.length : Int) + OX zs + k ≤ left)) ∧ h' = h) := by
 have hw : IntKind.i64.wrap (left - zs.length) = left - zs.length := by rw [wrap_i64] <;> omega
 refine AH [[0, 1], [0, 1], [0, 1], [], [0, 1], [0, 1, 5], [0, 1, 5], [0, 1, 5], [0, 1, 5], [], [1]] Tryz.func86 rfl (rs := [.tmp 4]) rfl rfl ?_
 intro wf
 refine A1 hw ?_
 refine AN (fun h1 => ?_) (fun h1 => ?_)
 ·refine zr ?_
  exact ⟨⟨_, rfl, fun hh => by omega⟩, rfl⟩
 ·refine zr ?_
  refine AJ [0] (fun m e h' => h' = h ∧ ∃ (k : Nat) (x : Int), look e 5 .mk = .raw (.int .i64 k) ∧ look e 1 .mk = .raw (.int .i64 x) ∧ 0 ≤ x ∧ (zs.length : Int) + OX (zs.take k) + x = left ∧ m + k = zs.length) zs.length ?_ ?_
  ·exact ⟨rfl, 0, left - zs.length, AL, AL, by omega, by simp [OX]; omega, by omega⟩
  ·rintro m e h hks ⟨rfl, k, x, e5, e1, hx, hsum, hk⟩
   simp -dsimp -implicitDefEqProofs only [go_sem, sQ1] at hks
   refine DH hks e5 e1 ?_
   refine AN (fun h2 => ?_) (fun h2 => ?_)
   ·have h3 : k < zs.length := by omega
    have hsz := hs0 (zs.getD k default) (by rw [List.getD_eq_getElem?_getD, List.getElem?_eq_getElem h3]; exact List.getElem_mem h3)
    have hw2 : IntKind.i64.wrap (x - (zs.getD k default).size) = x - (zs.getD k default).size := by rw [wrap_i64] <;> omega
    refine C5 h3 hw2 ?_
    refine AN (fun h4 => ?_) (fun h4 => ?_)
    ·refine zr ?_
     exact ⟨⟨_, rfl, fun hh => by omega⟩, rfl⟩
    ·refine A1 (AU h3 hn0) ?_
     exact AI (m - 1) (by omega) AL ⟨rfl, k + 1, x - (zs.getD k default).size, AL, AL, by omega, by have := VQ h3; omega, by omega⟩
   ·refine zr ?_
    refine ⟨⟨x, rfl, fun _ => ?_⟩, rfl⟩
    rw [List.take_of_length_le (by omega)] at hsum
    omega
def eW : Nat → ByteArray → ByteArray
 | 0, s => s
 | n + 1, s => eW ((n + 1) / 10) (⟨#[UInt8.ofNat (48 + (n + 1) % 10)]⟩ ++ s)
decreasing_by omega
def Kb (k : Int) : ByteArray := if k ≤ 0 then ⟨#[109, 48]⟩ else ⟨#[109]⟩ ++ eW k.toNat ⟨#[]⟩
theorem Qr {k : Int} {h : H2} (hk : k ≤ 4611686018427387904) : A7 Tryz.prog W0 150 [.raw (.int .i64 k)] h (fun v h' => v = .raw (.string (Kb k)) ∧ h' = h.up (hn h' .mk) ∧ hn h .mk ≤ hn h' .mk) := by
 refine AH [[0], [0], [], [0], [0, 3], [0, 3], [0, 3], [3]] Tryz.func150 rfl (rs := [.tmp 2]) rfl rfl ?_
 intro wf
 refine zr ?_
 refine AN (fun h1 => ?_) (fun h1 => ?_)
 ·refine zr ?_
  exact ⟨by rw [Kb, if_pos h1], rfl, Nat.le_refl _⟩
 ·refine zr ?_
  refine AJ [] (fun m e h' => h' = h.up (hn h' .mk) ∧ hn h .mk ≤ hn h' .mk ∧ ∃ s : ByteArray, look e 0 .mk = .raw (.int .i64 m) ∧ look e 3 .mk = .raw (.string s) ∧ eW m s = eW k.toNat ⟨#[]⟩ ∧ (s.size : Int) + m ≤ k) k.toNat ?_ ?_
  ·refine ⟨rfl, Nat.le_refl _, ⟨#[]⟩, ?_, AL, rfl, ?_⟩
   ·rw [show ((k.toNat : Nat) : Int) = k by omega]; simp -dsimp -implicitDefEqProofs only [go_sem]
   ·show (0 : Int) + _ ≤ _; omega
  ·rintro m e h' hks ⟨hh, hn', s, e0, e3, hs, hsz⟩
   simp -dsimp -implicitDefEqProofs only [go_sem] at hks
   refine C5 e0 e3 ?_
   refine AN (fun h2 => ?_) (fun h2 => ?_)
   ·obtain ⟨m, rfl⟩ : ∃ q, m = q + 1 := ⟨m - 1, by omega⟩
    have t10 : ((10 : Int) == 0) = false := rfl
    have hw1 : IntKind.i64.wrap (48 + ((m + 1 : Nat) : Int).tmod 10) = ((48 + (m + 1) % 10 : Nat) : Int) := by
     rw [Int.tmod_eq_emod_of_nonneg (by omega), wrap_i64] <;> omega
    have hw2 : IntKind.i64.wrap (((m + 1 : Nat) : Int).tdiv 10) = (((m + 1) / 10 : Nat) : Int) := by
     rw [Int.tdiv_eq_ediv_of_nonneg (by omega), wrap_i64] <;> omega
    have hw3 : IntKind.u8.wrap ((48 + (m + 1) % 10 : Nat) : Int) = ((48 + (m + 1) % 10 : Nat) : Int) := by
     rw [wrap_u8]; omega
    have hsz2 : (((ByteArray.mk #[UInt8.ofNat (48 + (m + 1) % 10)]).size + s.size : Nat) : Int) ≤ 9223372036854775807 := by
     have : (ByteArray.mk #[UInt8.ofNat (48 + (m + 1) % 10)]).size = 1 := rfl
     omega
    refine FD t10 hw1 hw2 hw3 hsz2 ?_
    refine AI ((m + 1) / 10) (by omega) AL ⟨?_, ?_, ⟨#[UInt8.ofNat (48 + (m + 1) % 10)]⟩ ++ s, AL, AL, by rw [← hs, eW], ?_⟩
    ·rw [hh]; rfl
    ·simp -dsimp -implicitDefEqProofs only [go_sem]; omega
    ·rw [ByteArray.size_append]
     have : (ByteArray.mk #[UInt8.ofNat (48 + (m + 1) % 10)]).size = 1 := rfl
     omega
   ·have hm : m = 0 := by omega
    subst hm
    have hsz3 : (((ByteArray.mk #[109]).size + s.size : Nat) : Int) ≤ 9223372036854775807 := by
     have : (ByteArray.mk #[109]).size = 1 := rfl
     omega
    refine A1 hsz3 ?_
    refine ⟨?_, hh, hn'⟩
    rw [Kb, if_neg (by omega), ← hs]; simp only [eW]
def HZ (k : Int) (n : Nat) : List ByteArray := (DF k n).map Kb
theorem La {k : Int} {n : Nat} : (HZ k n).length = n := by simp [HZ, DF]
abbrev cS (s : ByteArray) : X := .raw (.string s)
def Vy (N : Nat) (g : H2) (v : X) (zs : List ByteArray) : Prop := Own N g v 1 zs.length (zs.map cS)
theorem LJ {N : Nat} {v : X} {zs : List ByteArray} {h : H2} {k0 : Int} (o : Vy N h v zs) (hk0 : 0 ≤ k0 ∧ k0 + zs.length ≤ 4611686018427387904) :
  A7 Tryz.prog W0 93 [v, .raw (.int .i64 k0)] h (fun r h' => r = .raw (.int .i64 (k0 + zs.length)) ∧ Vy N h' v (HZ k0 zs.length) ∧ hn h .mk ≤ hn h' .mk ∧ ∀ b, AP v ≠ some b → h'.get b = h.get b) := by
 obtain ⟨hlen, hcase⟩ := o
 rcases hcase with ⟨rfl, h0⟩ | ⟨b, rfl, hNb, hbn, hb⟩
 ·have : zs = [] := List.eq_nil_of_length_eq_zero h0
  subst this
  refine AH [[0, 1], [0, 1], [0, 1, 5], [0, 1, 5], [0, 1, 5], [0, 1, 5], [1]] Tryz.func93 rfl (rs := [.tmp 4]) rfl rfl ?_
  intro wf
  refine zr ?_
  refine AJ [0] (fun m e h' => h' = h ∧ look e 5 .mk = .raw (.int .i64 0) ∧ look e 1 .mk = .raw (.int .i64 k0)) 0 ?_ ?_
  ·exact ⟨rfl, AL, AL⟩
  ·rintro m e h hks ⟨rfl, e5, e1⟩
   simp -dsimp -implicitDefEqProofs only [go_sem, sQ1] at hks
   repeat (first | rw [ko] | rw [kr] | simp -dsimp -implicitDefEqProofs only [go_sem, sQ1, hks, e5, e1, Int.lt_irrefl])
   exact ⟨by simp, ⟨by simp [HZ, DF], .inl ⟨rfl, rfl⟩⟩, Nat.le_refl _, fun _ _ => rfl⟩
 ·refine AH [[0, 1], [0, 1], [0, 1, 5], [0, 1, 5], [0, 1, 5], [0, 1, 5], [1]] Tryz.func93 rfl (rs := [.tmp 4]) rfl rfl ?_
  intro wf
  refine zr ?_
  refine AJ [0] (fun m e h' => ∃ (k : Nat) (cs : List X), look e 5 .mk = .raw (.int .i64 k) ∧ look e 1 .mk = .raw (.int .i64 (k0 + k)) ∧ m + k = zs.length ∧ hn h .mk ≤ hn h' .mk ∧ hg h' b .mk = some ⟨1, cs⟩ ∧ (∀ c, c ≠ b → h'.get c = h.get c) ∧ cs.length = zs.length ∧ ∀ j : Nat, j < k → cs[j]? = some (cS (Kb (k0 + j)))) zs.length ?_ ?_
  ·exact ⟨0, _, AL, by simp -dsimp -implicitDefEqProofs only [go_sem, Int.add_zero], by omega, Nat.le_refl _, hb, fun _ _ => rfl, by simp, fun j hj => by omega⟩
  ·rintro m e h' hks ⟨k, cs, e5, e1, hk, hnn, hrow, hoth, hl, hpre⟩
   simp -dsimp -implicitDefEqProofs only [go_sem, sQ1] at hks
   refine DH hks e5 e1 ?_
   refine AN (fun h2 => ?_) (fun h2 => ?_)
   ·have h3 : k < zs.length := by omega
    have hw2 : Cv cs k [.raw (.string (Kb (k0 + k)))] = some (cs.set k (.raw (.string (Kb (k0 + k))))) := H0 (by omega)
    have hi2 : (0 : Int) ≤ (k : Int) ∧ (k : Int) < (zs.length : Int) := by omega
    have hw : IntKind.i64.wrap (k0 + k + 1) = k0 + ((k + 1 : Nat) : Int) := by rw [wrap_i64] <;> omega
    refine zr ?_
    refine AA (Qr (by omega)) ?_
    rintro _ h4 ⟨rfl, hh4, hN4⟩
    rw [hh4]
    repeat (first | rw [ko] | rw [kr] | simp -dsimp -implicitDefEqProofs only [go_sem, sQ1, hrow, hw2, hi2, AU h3 (show zs.length ≤ 9223372036854775807 by omega), hw])
    refine AI (m - 1) (by omega) AL ⟨k + 1, cs.set k (.raw (.string (Kb (k0 + k)))), AL, AL, by omega, by simp -dsimp -implicitDefEqProofs only [go_sem]; omega, AL, fun c hc => ?_, by simpa using hl, ?_⟩
    ·show (if c = b then _ else h'.get c) = _
     rw [if_neg hc]; exact hoth c hc
    ·intro j hj
     by_cases hji : j = k
     ·subst hji; rw [List.getElem?_set_self (by omega)]
     ·rw [List.getElem?_set_ne (fun e => hji e.symm)]; exact hpre j (by omega)
   ·refine zr ?_
    have : k = zs.length := by omega
    subst this
    refine ⟨rfl, ⟨by simp [La], .inr ⟨b, by rw [La], hNb, by omega, ?_⟩⟩, hnn, fun c hc => hoth c fun e => hc (by rw [e]; rfl)⟩
    rw [hrow]
    congr 2
    apply List.ext_getElem?
    intro j
    by_cases hj : j < zs.length
    ·rw [hpre j hj, HZ, DF, List.map_map, List.map_map, List.getElem?_map, List.getElem?_range hj]; rfl
    ·rw [List.getElem?_eq_none (by omega), List.getElem?_eq_none (by simp [HZ, DF]; omega)]
end Go.Bi
end
section
namespace Go.Bi
open Go.Proofs
open Go.Ai (Bx)
variable {W0 : World}
theorem NY {h : H2} {n m : Nat} : (h.up n).up m = h.up m := rfl
attribute [go_sem] NY
theorem Ak.head {g : H2} {bs : List Nat} {ys : List X} {t : T} {ts : List T} (o : Ak g bs ys (t :: ts)) : ∃ b1 b2 y ys', bs = b1 ++ b2 ∧ ys = y :: ys' ∧ OT g b1 y t ∧ Ak g b2 ys' ts := by
 cases o with | cons a b => exact ⟨_, _, _, _, rfl, rfl, a, b⟩
theorem Ak.headv {g : H2} {bs : List Nat} {ys : List X} {v : Value} {ts : List T} (o : Ak g bs ys (.v v :: ts)) : ∃ ys', ys = .raw v :: ys' ∧ Ak g bs ys' ts := by
 cases o with | cons a b => cases a; exact ⟨_, rfl, b⟩
theorem Ak.tail0 {g : H2} {bs : List Nat} {ys : List X} (o : Ak g bs ys []) : bs = [] ∧ ys = [] := by cases o; exact ⟨rfl, rfl⟩
theorem H6 {f : AQ} {zs : List Int} {left : Int} {h : H2} (hn0 : zs.length ≤ 9223372036854775807) (hl : 0 ≤ left ∧ left ≤ 1048576) : PW Tryz.prog W0 44 [.sl f 1 (ints zs), .raw (.int .i64 left)] h (fun y => ∃ k : Int, y = .raw (.int .i64 k) ∧ (0 ≤ k → (zs.length : Int) + k ≤ left)) :=
 PW.scalar ((Vu hn0 hl).mono fun y g' ⟨⟨k, h1, h2⟩, h3⟩ => ⟨by rw [h3]; exact H2.le.refl _, ⟨_, h1⟩, k, h1, h2⟩)
theorem PG {f : AQ} {zs : List ByteArray} {left : Int} {h : H2} (hn0 : zs.length ≤ 9223372036854775807 ∧ ∀ s ∈ zs, s.size ≤ 9223372036854775807) (hl : 0 ≤ left ∧ left ≤ 1048576) : PW Tryz.prog W0 86 [.sl f 1 (strs zs), .raw (.int .i64 left)] h (fun y => ∃ k : Int, y = .raw (.int .i64 k) ∧ (0 ≤ k → (zs.length : Int) + OX zs + k ≤ left)) :=
 PW.scalar ((O6 hn0.1 hn0.2 hl).mono fun y g' ⟨⟨k, h1, h2⟩, h3⟩ => ⟨by rw [h3]; exact H2.le.refl _, ⟨_, h1⟩, k, h1, h2⟩)
theorem Fg {f f' : AQ} {zs : List Int} {h : H2} (hn0 : zs.length ≤ 9223372036854775807) : PW Tryz.prog W0 16 [.sl f 1 (ints zs), .sl f' 1 (ints zs)] h (fun y => y = .raw (.bool true)) :=
 PW.scalar ((U9 hn0).mono fun y g' ⟨h1, h3⟩ => ⟨by rw [h3]; exact H2.le.refl _, ⟨_, h1⟩, h1⟩)
theorem OS {f f' : AQ} {zs : List ByteArray} {h : H2} (hn0 : zs.length ≤ 9223372036854775807) : PW Tryz.prog W0 92 [.sl f 1 (strs zs), .sl f' 1 (strs zs)] h (fun y => y = .raw (.bool true)) :=
 PW.scalar ((O3 hn0).mono fun y g' ⟨h1, h3⟩ => ⟨by rw [h3]; exact H2.le.refl _, ⟨_, h1⟩, h1⟩)
theorem XA {zs : List ByteArray} : strs zs = (zs.map Value.string).map fun v => [T.v v] := by simp [strs, eS, Function.comp_def]
theorem Vy.tree {g : H2} {N : Nat} {x : X} {zs : List ByteArray} (o : Vy N g x zs) : ∃ bs, OT g bs x (.l 1 (strs zs)) ∧ Bl N (hn g .mk) bs := by
 obtain ⟨hl, hc⟩ := o
 rcases hc with ⟨rfl, h0⟩ | ⟨b, rfl, h1, h2, h3⟩
 ·have : zs = [] := List.eq_nil_of_length_eq_zero h0
  subst this
  exact ⟨[], .nil, .nil⟩
 ·have e : zs.map cS = (zs.map Value.string).map .raw := by simp [Function.comp_def]
  rw [e] at h3
  have := OT.flat (N := N) h3 (fun v hv => by obtain ⟨z, _, rfl⟩ := List.mem_map.1 hv; rfl)
  rw [← XA, List.length_map] at this
  exact ⟨[b], this, (Bl.one h2).wide h1 (Nat.le_refl _)⟩
theorem OT.ownS {g : H2} {bs : List Nat} {x : X} {zs : List ByteArray} (o : OT g bs x (.l 1 (strs zs))) {N : Nat} (hb : Bl N (hn g .mk) bs) : Vy N g x zs := by
 generalize ht : T.l 1 (strs zs) = t at o
 cases o with
 | raw => cases ht
 | nil =>
  simp only [T.l.injEq] at ht
  have : zs = [] := by cases zs <;> simp_all [strs]
  subst this
  exact .nil
 | row h1 h2 h3 h4 h5 =>
  simp only [T.l.injEq] at ht
  obtain ⟨rfl, rfl⟩ := ht
  rename_i b n bs' cs
  simp at h2
  have hn' : zs.length = n := by rw [← h3]; simp [strs]
  subst hn'
  refine ⟨by simp, .inr ⟨b, rfl, (hb.2 b (by simp)).1, (hb.2 b (by simp)).2, ?_⟩⟩
  have hcs : cs = zs.map cS := by
   clear h1 h2 h3 h4 hb
   induction zs generalizing cs bs' with
   | nil => simp [strs] at h5; cases h5; rfl
   | cons z zs ih =>
    simp only [strs, eS, List.map_cons, List.flatten_cons, List.cons_append, List.nil_append] at h5
    cases h5 with
    | cons a b =>
     cases a
     rw [List.map_cons, ih b]
  rw [← hcs]; exact h1
theorem Cf {f : AQ} {zs : List Int} {h : H2} (hn0 : zs.length ≤ 1048576) : Wf Tryz.prog W0 26 [.sl f 1 (ints zs)] h (.l 1 (ints zs)) :=
 (UR hn0).mono fun v h' ⟨h1, h2⟩ => ⟨h1, Al.tree h2⟩
theorem M7 {f : AQ} {zs : List ByteArray} {h : H2} (hn0 : zs.length ≤ 1048576) : Wf Tryz.prog W0 89 [.sl f 1 (strs zs)] h (.l 1 (strs zs)) :=
 (PD hn0).mono fun v h' ⟨h1, h2⟩ => ⟨h1, Vy.tree h2⟩
theorem OT.cell {g : H2} {bs : List Nat} {x : X} {z : Nat} {es : List (List T)} (o : OT g bs x (.l z es)) : A3 x = some [x] ∧ FC x = true ∧ Bg x = false := by
 generalize ht : T.l z es = t at o
 cases o with
 | raw => cases ht
 | nil => exact ⟨rfl, rfl, rfl⟩
 | row => exact ⟨rfl, rfl, rfl⟩
theorem Bl.split {N M : Nat} {a b : List Nat} (l : Bl N M (a ++ b)) : Bl N M a ∧ Bl N M b ∧ ∀ x ∈ a, x ∉ b := by
 obtain ⟨h1, h2⟩ := l
 rw [List.nodup_append] at h1
 exact ⟨⟨h1.1, fun x hx => h2 x (by simp [hx])⟩, ⟨h1.2.1, fun x hx => h2 x (by simp [hx])⟩, fun x hx hy => h1.2.2 x hx x hy rfl⟩
theorem OT.block {g : H2} {bs : List Nat} {x : X} {z : Nat} {es : List (List T)} (o : OT g bs x (.l z es)) {b : Nat} (hb : AP x = some b) : b ∈ bs := by
 generalize ht : T.l z es = t at o
 cases o with
 | raw => cases ht
 | nil => cases hb
 | row h1 h2 h3 h4 h5 => simp only [AP] at hb; cases hb; simp
theorem IZ : ∀ {vs : List Value}, (vs.map fun v => [T.v v]).flatten = vs.map .v
 | [] => rfl
 | v :: vs => by simp [IZ]
theorem Ak.raws_bs {g : H2} : ∀ {vs : List Value} {bs : List Nat} {xs : List X}, Ak g bs xs (vs.map .v) → bs = []
 | [], _, _, o => (Ak.tail0 o).1
 | v :: vs, _, _, o => by
  obtain ⟨ys, rfl, o'⟩ := Ak.headv (by simpa using o)
  exact Ak.raws_bs o'
theorem CT {N : Nat} {bs : List Nat} {v : X} {zs : List Int} {h : H2} {k0 : Int} (o : OT h bs v (.l 1 (ints zs))) (bl : Bl N (hn h .mk) bs) (hk : 0 ≤ k0 ∧ k0 + zs.length ≤ 4611686018427387904) :
  A7 Tryz.prog W0 22 [v, .raw (.int .i64 k0)] h (fun r h' => ∃ (k1 : Int) (c' : List Int), r = .raw (.int .i64 k1) ∧ k0 ≤ k1 ∧ k1 ≤ k0 + zs.length ∧ OT h' bs v (.l 1 (ints c')) ∧ (∀ f g, PW Tryz.prog W0 24 [.sl f 1 (ints c'), .raw (.int .i64 k0)] g (fun y => y = .raw (.int .i64 k1))) ∧ hn h .mk ≤ hn h' .mk ∧ ∀ b, b < hn h .mk → b ∉ bs → h'.get b = h.get b) := by
 refine (P9 (o.own bl) (by omega) (by omega)).mono ?_
 rintro r h' ⟨rfl, ow, hn', fr⟩
 refine ⟨_, DF k0 zs.length, rfl, by omega, by omega, ?_, fun f g => PW.scalar ((Qh (by omega) (by omega)).mono fun y g' ⟨h1, h3⟩ => ⟨by rw [h3]; exact H2.le.refl _, ⟨_, h1⟩, h1⟩), by omega, fun b _ hb => fr b fun e => hb (o.block e)⟩
 obtain ⟨bs', o', bl'⟩ := ow.tree
 have : bs' = bs := by
  generalize ht : T.l 1 (ints (DF k0 zs.length)) = t at o'
  generalize ht2 : T.l 1 (ints zs) = t2 at o
  cases o' with
  | raw => cases ht
  | nil => cases o with | nil => rfl | raw => cases ht2
  | row p1 p2 p3 p4 p5 =>
   cases o with
   | raw => cases ht2
   | row q1 q2 q3 q4 q5 =>
    simp only [T.l.injEq] at ht ht2
    obtain ⟨rfl, rfl⟩ := ht
    obtain ⟨rfl, rfl⟩ := ht2
    rw [XX, IZ] at p5 q5
    rw [Ak.raws_bs p5, Ak.raws_bs q5]
 rw [← this]; exact o'
end Go.Bi
end
section
namespace Go.Bi
open Go.Ai (Bx)
theorem BG {α : Type} [Inhabited α] {l : List α} {i : Nat} (h : i < l.length) : l.getD i default ∈ l := by
 rw [List.getD_eq_getElem?_getD, List.getElem?_eq_getElem h]; exact List.getElem_mem h
theorem Nv {α : Type} [Inhabited α] {l : List α} {i : Nat} (h : i < l.length) : l.take (i + 1) = l.take i ++ [l.getD i default] := by
 rw [List.take_succ_eq_append_getElem h, List.getD_eq_getElem?_getD, List.getElem?_eq_getElem h]; rfl
def Bv {α : Type} (f : α → Nat) : List α → Nat
 | [] => 0
 | x :: l => f x + Bv f l
theorem Dy {α : Type} {f : α → Nat} : ∀ {l m : List α}, Bv f (l ++ m) = Bv f l + Bv f m
 | [], _ => by simp [Bv]
 | x :: l, m => by simp only [List.cons_append, Bv, Dy]; omega
theorem GK {α : Type} [Inhabited α] {f : α → Nat} {l : List α} {i : Nat} (h : i < l.length) : Bv f (l.take (i + 1)) = Bv f (l.take i) + f (l.getD i default) := by
 rw [Nv h, Dy]; simp [Bv]
theorem GI {α : Type} {f : α → Nat} {x : α} : ∀ {l : List α}, x ∈ l → f x ≤ Bv f l
 | y :: l, h => by
  rcases List.mem_cons.1 h with rfl | h
  ·simp only [Bv]; omega
  ·have := GI (f := f) h; simp only [Bv]; omega
theorem JM {h : H2} : h = h.up (hn h .mk) := rfl
theorem Ak.append {g : H2} : ∀ {bs bs' : List Nat} {xs ys : List X} {ts us : List T}, Ak g bs xs ts → Ak g bs' ys us → Ak g (bs ++ bs') (xs ++ ys) (ts ++ us)
 | _, _, _, _, _, _, .nil, h => by simpa using h
 | _, _, _, _, _, _, .cons a b, h => by
  have := Ak.cons a (Ak.append b h)
  simpa only [List.append_assoc, List.cons_append] using this
theorem OT.okx {g : H2} {bs : List Nat} {x : X} {t : T} (o : OT g bs x t) : FC x = true ∧ A3 x = some [x] := by
 cases o with
 | raw hp => rename_i v; cases v <;> first | exact ⟨rfl, rfl⟩ | simp [Bx] at hp
 | nil => exact ⟨rfl, rfl⟩
 | row => exact ⟨rfl, rfl⟩
theorem Ak.okx {g : H2} : ∀ {bs : List Nat} {xs : List X} {ts : List T}, Ak g bs xs ts → xs.all FC = true
 | _, _, _, .nil => rfl
 | _, _, _, .cons a b => by simp only [List.all_cons, a.okx.1, b.okx, Bool.and_self]
theorem Ak.one {g : H2} {bs : List Nat} {x : X} {t : T} (o : OT g bs x t) : Ak g bs [x] [t] := by
 have := Ak.cons o Ak.nil
 simpa using this
theorem GM {α : Type} [Inhabited α] {E : α → List T} {l : List α} {i : Nat} (h : i < l.length) : ((l.take (i + 1)).map E).flatten = ((l.take i).map E).flatten ++ E (l.getD i default) := by
 rw [Nv h]; simp
theorem LF {cs ys : List X} {k n z : Nat} (hc : cs.length = n * z) (hk : k < n) (hy : ys.length = z) : Cv cs (k * z) ys = some (cs.take (k * z) ++ ys ++ cs.drop (k * z + z)) ∧ (cs.take (k * z) ++ ys ++ cs.drop (k * z + z)).length = n * z ∧ (cs.take (k * z) ++ ys ++ cs.drop (k * z + z)).take ((k + 1) * z) = cs.take (k * z) ++ ys := by
 have h1 : k * z + z ≤ n * z := by rw [← Nat.succ_mul]; exact Nat.mul_le_mul_right z hk
 refine ⟨?_, ?_, ?_⟩
 ·simp only [Cv, hy]; rw [if_pos (by omega)]
 ·simp only [List.length_append, List.length_take, List.length_drop, hy]; omega
 ·rw [List.take_append_of_le_length (by simp only [List.length_append, List.length_take, hy, Nat.succ_mul]; omega)]
  rw [List.take_of_length_le (by simp only [List.length_append, List.length_take, hy, Nat.succ_mul]; omega)]
theorem OT.full {g : H2} {b z : Nat} {bs : List Nat} {cs : List X} {α : Type} {E : α → List T} {l : List α} (hE : ∀ a, (E a).length = z) (hb : hg g b .mk = some ⟨z, cs⟩) (hc : cs.length = l.length * z) (o : Ak g bs (cs.take (l.length * z)) ((l.take l.length).map E).flatten) (bl : Bl (b + 1) (hn g .mk) bs) (hlt : b < hn g .mk) :
  OT g (b :: bs) (.raw (.slice (some ⟨b, 0, none⟩) l.length l.length)) (.l z (l.map E)) ∧ Bl b (hn g .mk) (b :: bs) := by
 refine ⟨.row hb hc (by simp) (fun e he => ?_) ?_, ?_⟩
 ·obtain ⟨a, _, rfl⟩ := List.mem_map.1 he; exact hE a
 ·rw [List.take_of_length_le (by omega), List.take_of_length_le (Nat.le_refl _)] at o; exact o
 ·refine ⟨List.nodup_cons.2 ⟨fun h => by have := (bl.2 b h).1; omega, bl.1⟩, fun x hx => ?_⟩
  rcases List.mem_cons.1 hx with rfl | hx
  ·omega
  ·have := bl.2 x hx; omega
end Go.Bi
end
section
set_option maxRecDepth 20000
namespace Go.Bi
open Go.Proofs
open Go.Ai (wrap_i64 wrap_u64 wrap_u8)
variable {W0 : World}
def Di (zs : List Int) : List T := [.l 1 (ints zs)]
theorem Ty {zs : List Int} : Di zs = [.l 1 (ints zs)] := rfl
attribute [go_sem] Ty
def Cj (zs : List Int) : Nat := zs.length
def TG (zs : List Int) : Prop := zs.length ≤ 9223372036854775807
def AE (zs : List (List Int)) : List (List T) := zs.map Di
theorem GO {zs : List (List Int)} : (AE zs).length = zs.length := by simp [AE]
theorem U1 {zs : List (List Int)} {i : Nat} (hi : i < zs.length) : el (AE zs) i = Di (zs.getD i default) := Gg hi
attribute [go_sem] GO U1
def BF (zs : List (List Int)) : Nat := zs.length + Bv Cj zs
def EH (zs : List (List Int)) : Prop := zs.length ≤ 9223372036854775807 ∧ ∀ x ∈ zs, TG x
theorem Es {f : AQ} {zs : List (List Int)} {left : Int} {h : H2} (hf : EH zs) (hl : 0 ≤ left ∧ left ≤ 1048576) : PW Tryz.prog W0 42 [.sl f 1 (AE zs), .raw (.int .i64 left)] h (fun y => ∃ k : Int, y = .raw (.int .i64 k) ∧ (0 ≤ k → (BF zs : Int) + k ≤ left)) := by
 obtain ⟨hf1, hf2⟩ := hf
 unfold BF
 have hw : IntKind.i64.wrap (left - zs.length) = left - zs.length := by rw [wrap_i64] <;> omega
 refine PW.scalar ?_
 refine AH [[0, 1], [0, 1], [0, 1], [], [0, 1], [0, 1, 5], [0, 1, 5], [0, 1, 5], [0, 1, 5], [], [1]] Tryz.func42 rfl (rs := [.tmp 4]) rfl rfl ?_
 intro wf
 refine A1 hw ?_
 refine AN (fun h1 => ?_) (fun h1 => ?_)
 ·refine zr ?_
  exact ⟨H2.le.refl _, ⟨_, rfl⟩, _, rfl, fun hh => by omega⟩
 ·refine zr ?_
  refine AJ [0] (fun m e h' => ∃ (k n : Nat) (x : Int), h' = h.up n ∧ hn h .mk ≤ n ∧ look e 5 .mk = .raw (.int .i64 k) ∧ look e 1 .mk = .raw (.int .i64 x) ∧ 0 ≤ x ∧ (zs.length : Int) + Bv Cj (zs.take k) + x ≤ left ∧ m + k = zs.length) zs.length ?_ ?_
  ·exact ⟨0, hn h .mk, left - zs.length, JM, Nat.le_refl _, AL, AL, by omega, by simp [Bv]; omega, by omega⟩
  ·rintro m e h' hks ⟨k, n, x, rfl, hnn, e5, e1, hx, hsum, hk⟩
   simp -dsimp -implicitDefEqProofs only [go_sem, sQ1] at hks
   by_cases h2 : (k : Int) < (zs.length : Int)
   ·have h3 : k < zs.length := by omega
    have hst : Bv Cj (zs.take (k + 1)) = Bv Cj (zs.take k) + (zs.getD k default).length := GK (f := Cj) h3
    refine FD hks e5 e1 h2 h3 ?_
    refine AD (H6 (hf2 _ (BG h3)) ⟨by omega, by omega⟩) ?_
    rintro _ n2 hn2 ⟨x2, rfl, hx2⟩
    simp only [AF] at hn2
    refine zr ?_
    refine AN (fun h4 => ?_) (fun h4 => ?_)
    ·refine zr ?_
     exact ⟨(by first | exact AK (H2.le.refl _) (by omega) | exact AK (AK (H2.le.refl _) hnn) (by rw [AF]; omega)), ⟨_, rfl⟩, _, rfl, fun hh => by omega⟩
    ·refine A1 (AU h3 hf1) ?_
     exact AI (m - 1) (by omega) AL ⟨k + 1, n2, x2, NY, by omega, AL, AL, by omega, by have := hx2 (by omega); omega, by omega⟩
   ·refine Cu hks e5 e1 h2 ?_
    refine ⟨AK (H2.le.refl _) hnn, ⟨_, rfl⟩, x, rfl, fun _ => ?_⟩
    rw [List.take_of_length_le (by omega)] at hsum
    omega
theorem E4 {f f' : AQ} {zs : List (List Int)} {h : H2} (hf : EH zs) : PW Tryz.prog W0 67 [.sl f 1 (AE zs), .sl f' 1 (AE zs)] h (fun y => y = .raw (.bool true)) := by
 obtain ⟨hf1, hf2⟩ := hf
 refine PW.scalar ?_
 refine AH [[0, 1], [0, 1], [], [0, 1], [0, 1, 5], [0, 1, 5], [0, 1, 5], [], []] Tryz.func67 rfl (rs := [.tmp 4]) rfl rfl ?_
 intro wf
 refine zr ?_
 refine AJ [0, 1] (fun m e h' => ∃ (k n : Nat), h' = h.up n ∧ hn h .mk ≤ n ∧ look e 5 .mk = .raw (.int .i64 k) ∧ m + k = zs.length) zs.length ?_ ?_
 ·exact ⟨0, hn h .mk, JM, Nat.le_refl _, AL, by omega⟩
 ·rintro m e h' hks ⟨k, n, rfl, hnn, e5, hk⟩
  simp -dsimp -implicitDefEqProofs only [go_sem, sQ1] at hks
  by_cases h2 : (k : Int) < (zs.length : Int)
  ·have h3 : k < zs.length := by omega
   refine DH hks e5 h2 ?_
   refine AO [(0, []), (1, []), (2, []), (3, []), (4, []), (5, []), (6, []), (7, []), (8, []), (9, [])] (by kernel_rfl) ?_
   refine A1 h3 ?_
   refine AD (Fg (hf2 _ (BG h3))) ?_
   rintro _ n2 hn2 rfl
   simp only [AF] at hn2
   refine A1 (AU h3 hf1) ?_
   exact AI (m - 1) (by omega) AL ⟨k + 1, n2, NY, by omega, AL, by omega⟩
  ·refine DH hks e5 h2 ?_
   exact ⟨AK (H2.le.refl _) hnn, ⟨_, rfl⟩, rfl⟩
theorem EB {f : AQ} {zs : List (List Int)} {h : H2} (hs : BF zs ≤ 1048576) : Wf Tryz.prog W0 54 [.sl f 1 (AE zs)] h (.l 1 (AE zs)) := by
 unfold BF at hs
 have hE : ∀ a, (Di a).length = 1 := fun a => rfl
 refine AH [[0], [0], [0, 3], [0, 3, 4], [0, 3, 4], [0, 3, 4], [3]] Tryz.func54 rfl (rs := [.tmp 2]) rfl rfl ?_
 intro wf
 refine zr ?_
 refine Eo Ai.ty_el23 Ai.ty_zr25 (by decide) ⟨by omega, by simp only [Int.toNat_natCast]; have : Ai.most = 1099511627776 := rfl; omega⟩ ?_
 refine zr ?_
 refine AJ [0, 3] (fun m e h' => ∃ (k : Nat) (cs : List X) (bs : List Nat), look e 4 .mk = .raw (.int .i64 k) ∧ m + k = zs.length ∧ hg h' (hn h .mk) .mk = some ⟨1, cs⟩ ∧ cs.length = zs.length * 1 ∧ Ak h' bs (cs.take (k * 1)) (((zs.take k).map Di).flatten) ∧ Bl (hn h .mk + 1) (hn h' .mk) bs ∧ h.le h' ∧ hn h .mk < hn h' .mk) zs.length ?_ ?_
 ·exact ⟨0, _, [], AL, by omega, (by rw [Ap, Av]; rfl), by simp [Kw], by simpa using Ak.nil, Bl.nil, le_push (H2.le.refl _), by rw [AB]; omega⟩
 ·rintro m e h' hks ⟨k, cs, bs, e4, hk, hrow, hcs, ho, hbl, hle, hlt⟩
  simp -dsimp -implicitDefEqProofs only [go_sem] at hks
  by_cases h2 : (k : Int) < (zs.length : Int)
  ·have h3 : k < zs.length := by omega
   have hsm : (zs.getD k default).length ≤ Bv Cj zs := GI (f := Cj) (BG h3)
   refine Cu hks e4 h2 h3 ?_
   refine AA (Cf (by omega)) ?_
   rintro y g2 ⟨l2, b2, o1, bl2⟩
   have hy1 := OT.okx o1
   have o2 := Ak.one o1
   have nn2 := l2.1
   have hyl : ([y]).length = 1 := (Ak.len o2).trans (hE _)
   have hyo := Ak.okx o2
   obtain ⟨w1, w2, w3⟩ := LF hcs h3 hyl
   have row2 := (l2.2 (hn h .mk) hlt).trans hrow
   have hi2 : (0 : Int) ≤ (k : Int) ∧ (k : Int) < (zs.length : Int) := by omega
   rw [Nat.mul_one] at w1
   repeat (first | rw [ko] | rw [kr] | simp -dsimp -implicitDefEqProofs only [go_sem, sQ1, row2, hi2, hyl, hyo, w1, hy1, AU h3 (by omega)])
   have hset : ∀ {b : Nat} {kk : OB}, b ≠ hn h .mk → (g2.set (hn h .mk) kk).get b = g2.get b := fun hb => by simp only [H2.set]; rw [if_neg hb]
   refine AI (m - 1) (by omega) AL ⟨k + 1, _, bs ++ b2, AL, by omega, (by rw [BA, Av]; rfl), (by rw [← Nat.mul_one k]; exact w2), ?_, ?_, CF (hle.trans l2) (Nat.le_refl _), by simp -dsimp -implicitDefEqProofs only [go_sem] <;> omega⟩
   ·rw [show cs.take k = cs.take (k * 1) by rw [Nat.mul_one], show cs.drop (k + 1) = cs.drop (k * 1 + 1) by rw [Nat.mul_one]]; rw [w3, GM h3]
    refine Ak.append ((Ak.keep ho l2 hbl).frame fun b hb => hset (by have := (hbl.2 b hb).1; omega)) (o2.frame fun b hb => hset (by have := (bl2.2 b hb).1; omega))
   ·rw [AG]
    exact hbl.append bl2 (by omega) nn2
  ·refine DH hks e4 h2 ?_
   have : k = zs.length := by omega
   subst this
   obtain ⟨q1, q2⟩ := OT.full hE hrow hcs ho hbl hlt
   exact ⟨hle, _, q1, q2⟩
structure Ae where
 a : Int
 b : Int
instance : Inhabited Ae := ⟨⟨default, default⟩⟩
def DK (c : Ae) : List T := [.v (.int .i64 c.a), .v (.int .i64 c.b)]
def IX (F : Nat → AQ) (c : Ae) : List X := [.raw (.int .i64 c.a), .raw (.int .i64 c.b)]
theorem RF {c : Ae} : DK c = [.v (.int .i64 c.a), .v (.int .i64 c.b)] := rfl
theorem Sh {F : Nat → AQ} {c : Ae} : IX F c = [.raw (.int .i64 c.a), .raw (.int .i64 c.b)] := rfl
def CB (c : Ae) : Nat := 0
def HF (c : Ae) : Prop := True
attribute [go_sem] RF Sh
theorem Ww {g : H2} {c : Ae} : Ak g [] [.raw (.int .i64 c.a), .raw (.int .i64 c.b)] (DK c) := by
 have := (Ak.cons (OT.raw (v := .int .i64 c.a) rfl) (Ak.cons (OT.raw (v := .int .i64 c.b) rfl) (Ak.nil)) : Ak g _ _ _)
 simpa only [DK, List.append_nil, List.nil_append] using this
theorem Sf {F F' : Nat → AQ} {c : Ae} {h : H2} (hf : HF c) : PW Tryz.prog W0 139 [.st (IX F c), .st (IX F' c)] h (fun y => y = .raw (.bool true)) := by
 unfold HF at hf
 refine PW.scalar ?_
 refine AH [[0, 1], [2, 3], [], [2, 3], [], []] Tryz.func139 rfl (rs := [.tmp 4]) rfl rfl ?_
 intro wf
 refine zr ?_
 exact ⟨AZ, ⟨_, rfl⟩, rfl⟩
theorem TE {F : Nat → AQ} {c : Ae} {h : H2} (hs : CB c ≤ 1048576) : Tz Tryz.prog W0 114 [.st (IX F c)] h (DK c) := by
 refine AH [[0], [1, 2], [1, 2, 3], [1, 2, 3], [2, 3]] Tryz.func114 rfl (rs := [.cell 2 165]) rfl rfl ?_
 intro wf
 refine zh ?_
 exact ⟨AZ, _, [], rfl, Ww (c := c), Bl.nil⟩
def AY (zs : List Ae) : List (List T) := zs.map DK
theorem HV {zs : List Ae} : (AY zs).length = zs.length := by simp [AY]
theorem Rn {zs : List Ae} {i : Nat} (hi : i < zs.length) : el (AY zs) i = DK (zs.getD i default) := Gg hi
attribute [go_sem] HV Rn
def Cn (zs : List Ae) : Nat := zs.length + Bv CB zs
def Hk (zs : List Ae) : Prop := zs.length ≤ 9223372036854775807 ∧ ∀ x ∈ zs, HF x
theorem QP {f : AQ} {zs : List Ae} {left : Int} {h : H2} (hf : Hk zs) (hl : 0 ≤ left ∧ left ≤ 1048576) : PW Tryz.prog W0 41 [.sl f 2 (AY zs), .raw (.int .i64 left)] h (fun y => ∃ k : Int, y = .raw (.int .i64 k) ∧ (0 ≤ k → (Cn zs : Int) + k ≤ left)) := by
 obtain ⟨hf1, hf2⟩ := hf
 unfold Cn
 have hw : IntKind.i64.wrap (left - zs.length) = left - zs.length := by rw [wrap_i64] <;> omega
 refine PW.scalar ?_
 refine AH [[0, 1], [0, 1], [1], [], [1]] Tryz.func41 rfl (rs := [.tmp 4]) rfl rfl ?_
 intro wf
 refine A1 hw ?_
 refine AN (fun h1 => ?_) (fun h1 => ?_)
 ·refine zr ?_
  exact ⟨H2.le.refl _, ⟨_, rfl⟩, _, rfl, fun hh => by omega⟩
 ·refine zr ?_
  have h0 : ∀ l : List Ae, Bv CB l = 0 := fun l => by
   induction l with
   | nil => rfl
   | cons a l ih => simp only [Bv, CB, ih]
  exact ⟨H2.le.refl _, ⟨_, rfl⟩, _, rfl, fun hh => by rw [h0]; omega⟩
theorem QL {f f' : AQ} {zs : List Ae} {h : H2} (hf : Hk zs) : PW Tryz.prog W0 66 [.sl f 2 (AY zs), .sl f' 2 (AY zs)] h (fun y => y = .raw (.bool true)) := by
 obtain ⟨hf1, hf2⟩ := hf
 refine PW.scalar ?_
 refine AH [[0, 1], [0, 1], [], [0, 1], [0, 1, 5], [0, 1, 5], [0, 1, 5], [], []] Tryz.func66 rfl (rs := [.tmp 4]) rfl rfl ?_
 intro wf
 refine zr ?_
 refine AJ [0, 1] (fun m e h' => ∃ (k n : Nat), h' = h.up n ∧ hn h .mk ≤ n ∧ look e 5 .mk = .raw (.int .i64 k) ∧ m + k = zs.length) zs.length ?_ ?_
 ·exact ⟨0, hn h .mk, JM, Nat.le_refl _, AL, by omega⟩
 ·rintro m e h' hks ⟨k, n, rfl, hnn, e5, hk⟩
  simp -dsimp -implicitDefEqProofs only [go_sem, sQ1] at hks
  by_cases h2 : (k : Int) < (zs.length : Int)
  ·have h3 : k < zs.length := by omega
   refine DH hks e5 h2 ?_
   refine AO [(0, []), (1, []), (2, []), (3, []), (4, []), (5, []), (6, []), (7, []), (8, []), (9, [])] (by kernel_rfl) ?_
   refine A1 h3 ?_
   refine AD (Sf (F := under (under f k)) (F' := under (under f' k)) (c := zs.getD k default) (hf2 _ (BG h3))) ?_
   rintro _ n2 hn2 rfl
   simp only [AF] at hn2
   refine A1 (AU h3 hf1) ?_
   exact AI (m - 1) (by omega) AL ⟨k + 1, n2, NY, by omega, AL, by omega⟩
  ·refine DH hks e5 h2 ?_
   exact ⟨AK (H2.le.refl _) hnn, ⟨_, rfl⟩, rfl⟩
theorem O5 {f : AQ} {zs : List Ae} {h : H2} (hs : Cn zs ≤ 1048576) : Wf Tryz.prog W0 53 [.sl f 2 (AY zs)] h (.l 2 (AY zs)) := by
 unfold Cn at hs
 have hE : ∀ a, (DK a).length = 2 := fun a => rfl
 refine AH [[0], [0], [0, 3], [0, 3, 4], [0, 3, 4], [0, 3, 4], [3]] Tryz.func53 rfl (rs := [.tmp 2]) rfl rfl ?_
 intro wf
 refine zr ?_
 refine Eo Ai.ty_el40 Ai.ty_zr165 (by decide) ⟨by omega, by simp only [Int.toNat_natCast]; have : Ai.most = 1099511627776 := rfl; omega⟩ ?_
 refine zr ?_
 refine AJ [0, 3] (fun m e h' => ∃ (k : Nat) (cs : List X) (bs : List Nat), look e 4 .mk = .raw (.int .i64 k) ∧ m + k = zs.length ∧ hg h' (hn h .mk) .mk = some ⟨2, cs⟩ ∧ cs.length = zs.length * 2 ∧ Ak h' bs (cs.take (k * 2)) (((zs.take k).map DK).flatten) ∧ Bl (hn h .mk + 1) (hn h' .mk) bs ∧ h.le h' ∧ hn h .mk < hn h' .mk) zs.length ?_ ?_
 ·exact ⟨0, _, [], AL, by omega, (by rw [Ap, Av]; rfl), by simp [Kw], by simpa using Ak.nil, Bl.nil, le_push (H2.le.refl _), by rw [AB]; omega⟩
 ·rintro m e h' hks ⟨k, cs, bs, e4, hk, hrow, hcs, ho, hbl, hle, hlt⟩
  simp -dsimp -implicitDefEqProofs only [go_sem] at hks
  by_cases h2 : (k : Int) < (zs.length : Int)
  ·have h3 : k < zs.length := by omega
   have hsm : CB (zs.getD k default) ≤ Bv CB zs := GI (f := CB) (BG h3)
   refine Cu hks e4 h2 h3 ?_
   refine AA (TE (F := under (under f k)) (c := zs.getD k default) (by omega)) ?_
   rintro _ g2 ⟨l2, ys, b2, rfl, o2, bl2⟩
   have nn2 := l2.1
   have hyl : (ys).length = 2 := (Ak.len o2).trans (hE _)
   have hyo := Ak.okx o2
   obtain ⟨w1, w2, w3⟩ := LF hcs h3 hyl
   have row2 := (l2.2 (hn h .mk) hlt).trans hrow
   have hi2 : (0 : Int) ≤ (k : Int) ∧ (k : Int) < (zs.length : Int) := by omega
   repeat (first | rw [ko] | rw [kr] | simp -dsimp -implicitDefEqProofs only [go_sem, sQ1, row2, hi2, hyl, hyo, w1, AU h3 (by omega)])
   have hset : ∀ {b : Nat} {kk : OB}, b ≠ hn h .mk → (g2.set (hn h .mk) kk).get b = g2.get b := fun hb => by simp only [H2.set]; rw [if_neg hb]
   refine AI (m - 1) (by omega) AL ⟨k + 1, _, bs ++ b2, AL, by omega, (by rw [BA, Av]; rfl), w2, ?_, ?_, CF (hle.trans l2) (Nat.le_refl _), by simp -dsimp -implicitDefEqProofs only [go_sem] <;> omega⟩
   ·rw [w3, GM h3]
    refine Ak.append ((Ak.keep ho l2 hbl).frame fun b hb => hset (by have := (hbl.2 b hb).1; omega)) (o2.frame fun b hb => hset (by have := (bl2.2 b hb).1; omega))
   ·rw [AG]
    exact hbl.append bl2 (by omega) nn2
  ·refine DH hks e4 h2 ?_
   have : k = zs.length := by omega
   subst this
   obtain ⟨q1, q2⟩ := OT.full hE hrow hcs ho hbl hlt
   exact ⟨hle, _, q1, q2⟩
structure AR where
 width : Int
 rows : List (List Int)
 scales : List (List Int)
 mul : Int
 shift : Int
instance : Inhabited AR := ⟨⟨default, default, default, default, default⟩⟩
def EU (c : AR) : List T := [.v (.int .i64 c.width), .l 1 (AE c.rows), .l 1 (AE c.scales), .v (.int .i64 c.mul), .v (.int .i64 c.shift)]
def BV (F : Nat → AQ) (c : AR) : List X := [.raw (.int .i64 c.width), .sl (F 1) 1 (AE c.rows), .sl (F 2) 1 (AE c.scales), .raw (.int .i64 c.mul), .raw (.int .i64 c.shift)]
theorem QG {c : AR} : EU c = [.v (.int .i64 c.width), .l 1 (AE c.rows), .l 1 (AE c.scales), .v (.int .i64 c.mul), .v (.int .i64 c.shift)] := rfl
theorem Qa {F : Nat → AQ} {c : AR} : BV F c = [.raw (.int .i64 c.width), .sl (F 1) 1 (AE c.rows), .sl (F 2) 1 (AE c.scales), .raw (.int .i64 c.mul), .raw (.int .i64 c.shift)] := rfl
def A0 (c : AR) : Nat := BF c.rows + BF c.scales
def By (c : AR) : Prop := EH c.rows ∧ EH c.scales
attribute [go_sem] QG Qa
theorem Dt {g : H2} {bs : List Nat} {ys : List X} {c : AR} (o : Ak g bs ys (EU c)) : ∃ b1 s1 b2 s2, ys = [.raw (.int .i64 c.width), s1, s2, .raw (.int .i64 c.mul), .raw (.int .i64 c.shift)] ∧ bs = b1 ++ b2 ∧ OT g b1 s1 (.l 1 (AE c.rows)) ∧ OT g b2 s2 (.l 1 (AE c.scales)) := by
 unfold EU at o
 obtain ⟨ys0, rfl, o0⟩ := Ak.headv o
 obtain ⟨b1, bs1, s1, ys1, rfl, rfl, a1, o1⟩ := Ak.head o0
 obtain ⟨b2, bs2, s2, ys2, rfl, rfl, a2, o2⟩ := Ak.head o1
 obtain ⟨ys3, rfl, o3⟩ := Ak.headv o2
 obtain ⟨ys4, rfl, o4⟩ := Ak.headv o3
 obtain ⟨rfl, rfl⟩ := Ak.tail0 o4
 exact ⟨_, _, _, _, rfl, by simp only [List.append_nil], a1, a2⟩
theorem Va {g : H2} {c : AR} {b1 b2 : List Nat} {s1 s2 : X} (a1 : OT g b1 s1 (.l 1 (AE c.rows))) (a2 : OT g b2 s2 (.l 1 (AE c.scales))) : Ak g (b1 ++ b2) [.raw (.int .i64 c.width), s1, s2, .raw (.int .i64 c.mul), .raw (.int .i64 c.shift)] (EU c) := by
 have := Ak.cons (OT.raw (v := .int .i64 c.width) rfl) (Ak.cons a1 (Ak.cons a2 (Ak.cons (OT.raw (v := .int .i64 c.mul) rfl) (Ak.cons (OT.raw (v := .int .i64 c.shift) rfl) (Ak.nil)))))
 simpa only [EU, List.append_nil, List.nil_append] using this
theorem Cc {F : Nat → AQ} {c : AR} {left : Int} {h : H2} (hf : By c) (hl : 0 ≤ left ∧ left ≤ 1048576) : PW Tryz.prog W0 45 [.st (BV F c), .raw (.int .i64 left)] h (fun y => ∃ k : Int, y = .raw (.int .i64 k) ∧ (0 ≤ k → (A0 c : Int) + k ≤ left)) := by
 unfold By at hf
 refine PW.scalar ?_
 refine AH [[0, 1], [1, 2], [1, 2], [], [1, 2], [1], [], [1]] Tryz.func45 rfl (rs := [.tmp 4]) rfl rfl ?_
 intro wf
 refine zr ?_
 refine AD (Es  hf.1 ⟨by omega, by omega⟩) ?_
 rintro _ n1 hn1 ⟨k1, rfl, hk1⟩
 refine zr ?_
 refine AN (fun q1 => ?_) (fun q1 => ?_)
 ·refine zr ?_
  exact ⟨AZ, ⟨_, rfl⟩, _, rfl, fun hh => by omega⟩
 refine zr ?_
 refine AD (Es  hf.2 ⟨by omega, by omega⟩) ?_
 rintro _ n2 hn2 ⟨k2, rfl, hk2⟩
 refine zr ?_
 refine AN (fun q2 => ?_) (fun q2 => ?_)
 ·refine zr ?_
  exact ⟨AZ, ⟨_, rfl⟩, _, rfl, fun hh => by omega⟩
 refine zr ?_
 exact ⟨AZ, ⟨_, rfl⟩, _, rfl, fun hh => by unfold A0; omega⟩
theorem Cb {F F' : Nat → AQ} {c : AR} {h : H2} (hf : By c) : PW Tryz.prog W0 69 [.st (BV F c), .st (BV F' c)] h (fun y => y = .raw (.bool true)) := by
 unfold By at hf
 refine PW.scalar ?_
 refine AH [[0, 1], [2, 3], [], [2, 3], [], [2, 3], [], [2, 3], [], [2, 3], [], []] Tryz.func69 rfl (rs := [.tmp 4]) rfl rfl ?_
 intro wf
 refine zr ?_
 refine AD (E4  hf.1) ?_
 rintro _ n1 hn1 rfl
 refine zr ?_
 refine AD (E4  hf.2) ?_
 rintro _ n2 hn2 rfl
 refine zr ?_
 exact ⟨AZ, ⟨_, rfl⟩, rfl⟩
theorem Ck {F : Nat → AQ} {c : AR} {h : H2} (hs : A0 c ≤ 1048576) : Tz Tryz.prog W0 56 [.st (BV F c)] h (EU c) := by
 unfold A0 at hs
 refine AH [[0], [1, 2], [1, 2, 3], [1, 2, 3], [1, 2, 3], [1, 2, 3], [1, 2, 3], [2, 3]] Tryz.func56 rfl (rs := [.cell 2 42]) rfl rfl ?_
 intro wf
 refine zr ?_
 refine AA (EB  (by omega)) ?_
 rintro s1 g1 ⟨l1, b1, o1, bl1⟩
 have ce1 := OT.cell o1
 have n1 := l1.n
 have a10 := l1.2 (hn h .mk) (by simp only [AB, AG]; omega)
 have a11 := l1.2 (hn h .mk + 1) (by simp only [AB, AG]; omega)
 have a12 := l1.2 (hn h .mk + 1 + 1) (by simp only [AB, AG]; omega)
 simp -dsimp -implicitDefEqProofs only [go_sem, Av] at n1 a10 a11 a12
 have L1 : h.le g1 := H2.le.trans AZ l1
 refine DH a10 a12 ce1 ?_
 refine AA (EB  (by omega)) ?_
 rintro s2 g2 ⟨l2, b2, o2, bl2⟩
 have ce2 := OT.cell o2
 have n2 := l2.n
 have a20 := l2.2 (hn h .mk) (by simp only [AG]; omega)
 have a21 := l2.2 (hn h .mk + 1) (by simp only [AG]; omega)
 have a22 := l2.2 (hn h .mk + 1 + 1) (by simp only [AG]; omega)
 simp -dsimp -implicitDefEqProofs only [go_sem, a10, a11, Av] at n2 a20 a21 a22
 have L2 : h.le g2 := H2.le.trans AZ l2
 refine FD a20 a21 a22 ce1 ce2 ?_
 refine ⟨AZ, _, b1 ++ b2, rfl, Va (c := c) ?_ ?_, ?_⟩
 ·refine OT.frame o1 fun b hb => ?_
  have hbl := bl1.2 b (hb)
  simp only [AB, AG] at hbl
  simp only [H2.set]
  rw [if_neg (by omega), if_neg (by omega)]
  rw [show g2.get b = _ from l2.2 b (by simp only [AG]; omega)]
  simp only [hg, H2.set]
  rw [if_neg (by omega)]
 ·refine OT.frame o2 fun b hb => ?_
  have hbl := bl2.2 b (hb)
  simp only [AG] at hbl
  simp only [H2.set]
  rw [if_neg (by omega), if_neg (by omega)]
 ·simp only [AG]
  have m1 := bl1
  simp only [AB, AG] at m1
  have m2 := bl2
  simp only [AG] at m2
  have := ((Bl.append m1 m2 (by omega) (by omega))).wide (N' := hn h .mk) (by omega) (Nat.le_refl _)
  simpa only [List.append_assoc] using this
structure CD where
 cos : List (List Int)
 sin : List (List Int)
instance : Inhabited CD := ⟨⟨default, default⟩⟩
def KB (c : CD) : List T := [.l 1 (AE c.cos), .l 1 (AE c.sin)]
def Gj (F : Nat → AQ) (c : CD) : List X := [.sl (F 0) 1 (AE c.cos), .sl (F 1) 1 (AE c.sin)]
theorem RK {F : Nat → AQ} {c : CD} : Gj F c = [.sl (F 0) 1 (AE c.cos), .sl (F 1) 1 (AE c.sin)] := rfl
def EV (c : CD) : Nat := BF c.cos + BF c.sin
def Fv (c : CD) : Prop := EH c.cos ∧ EH c.sin
attribute [go_sem] RK
theorem YI {g : H2} {bs : List Nat} {ys : List X} {c : CD} (o : Ak g bs ys (KB c)) : ∃ b0 s0 b1 s1, ys = [s0, s1] ∧ bs = b0 ++ b1 ∧ OT g b0 s0 (.l 1 (AE c.cos)) ∧ OT g b1 s1 (.l 1 (AE c.sin)) := by
 unfold KB at o
 obtain ⟨b0, bs0, s0, ys0, rfl, rfl, a0, o0⟩ := Ak.head o
 obtain ⟨b1, bs1, s1, ys1, rfl, rfl, a1, o1⟩ := Ak.head o0
 obtain ⟨rfl, rfl⟩ := Ak.tail0 o1
 exact ⟨_, _, _, _, rfl, by simp only [List.append_nil], a0, a1⟩
theorem Wt {g : H2} {c : CD} {b0 b1 : List Nat} {s0 s1 : X} (a0 : OT g b0 s0 (.l 1 (AE c.cos))) (a1 : OT g b1 s1 (.l 1 (AE c.sin))) : Ak g (b0 ++ b1) [s0, s1] (KB c) := by
 have := Ak.cons a0 (Ak.cons a1 (Ak.nil))
 simpa only [KB, List.append_nil, List.nil_append] using this
theorem RJ {F : Nat → AQ} {c : CD} {left : Int} {h : H2} (hf : Fv c) (hl : 0 ≤ left ∧ left ≤ 1048576) : PW Tryz.prog W0 46 [.st (Gj F c), .raw (.int .i64 left)] h (fun y => ∃ k : Int, y = .raw (.int .i64 k) ∧ (0 ≤ k → (EV c : Int) + k ≤ left)) := by
 unfold Fv at hf
 refine PW.scalar ?_
 refine AH [[0, 1], [1, 2], [1, 2], [], [1, 2], [1], [], [1]] Tryz.func46 rfl (rs := [.tmp 4]) rfl rfl ?_
 intro wf
 refine zr ?_
 refine AD (Es  hf.1 ⟨by omega, by omega⟩) ?_
 rintro _ n0 hn0 ⟨k0, rfl, hk0⟩
 refine zr ?_
 refine AN (fun q0 => ?_) (fun q0 => ?_)
 ·refine zr ?_
  exact ⟨AZ, ⟨_, rfl⟩, _, rfl, fun hh => by omega⟩
 refine zr ?_
 refine AD (Es  hf.2 ⟨by omega, by omega⟩) ?_
 rintro _ n1 hn1 ⟨k1, rfl, hk1⟩
 refine zr ?_
 refine AN (fun q1 => ?_) (fun q1 => ?_)
 ·refine zr ?_
  exact ⟨AZ, ⟨_, rfl⟩, _, rfl, fun hh => by omega⟩
 refine zr ?_
 exact ⟨AZ, ⟨_, rfl⟩, _, rfl, fun hh => by unfold EV; omega⟩
theorem RD {F F' : Nat → AQ} {c : CD} {h : H2} (hf : Fv c) : PW Tryz.prog W0 70 [.st (Gj F c), .st (Gj F' c)] h (fun y => y = .raw (.bool true)) := by
 unfold Fv at hf
 refine PW.scalar ?_
 refine AH [[0, 1], [2, 3], [], [2, 3], [], []] Tryz.func70 rfl (rs := [.tmp 4]) rfl rfl ?_
 intro wf
 refine zr ?_
 refine AD (E4  hf.1) ?_
 rintro _ n0 hn0 rfl
 refine zr ?_
 refine AD (E4  hf.2) ?_
 rintro _ n1 hn1 rfl
 refine zr ?_
 exact ⟨AZ, ⟨_, rfl⟩, rfl⟩
theorem Q0 {F : Nat → AQ} {c : CD} {h : H2} (hs : EV c ≤ 1048576) : Tz Tryz.prog W0 57 [.st (Gj F c)] h (KB c) := by
 unfold EV at hs
 refine AH [[0], [1, 2], [1, 2, 3], [1, 2, 3], [2, 3]] Tryz.func57 rfl (rs := [.cell 2 43]) rfl rfl ?_
 intro wf
 refine zr ?_
 refine AA (EB  (by omega)) ?_
 rintro s0 g0 ⟨l0, b0, o0, bl0⟩
 have ce0 := OT.cell o0
 have n0 := l0.n
 have a00 := l0.2 (hn h .mk) (by simp only [AB]; omega)
 have a01 := l0.2 (hn h .mk + 1) (by simp only [AB]; omega)
 have a02 := l0.2 (hn h .mk + 1 + 1) (by simp only [AB]; omega)
 simp -dsimp -implicitDefEqProofs only [go_sem, Av] at n0 a00 a01 a02
 have L0 : h.le g0 := H2.le.trans AZ l0
 refine DH a00 a02 ce0 ?_
 refine AA (EB  (by omega)) ?_
 rintro s1 g1 ⟨l1, b1, o1, bl1⟩
 have ce1 := OT.cell o1
 have n1 := l1.n
 have a10 := l1.2 (hn h .mk) (by simp only [AG]; omega)
 have a11 := l1.2 (hn h .mk + 1) (by simp only [AG]; omega)
 have a12 := l1.2 (hn h .mk + 1 + 1) (by simp only [AG]; omega)
 simp -dsimp -implicitDefEqProofs only [go_sem, a00, a01, Av] at n1 a10 a11 a12
 have L1 : h.le g1 := H2.le.trans AZ l1
 refine Cu a11 a12 ce0 ce1 ?_
 refine ⟨AZ, _, b0 ++ b1, rfl, Wt (c := c) ?_ ?_, ?_⟩
 ·refine OT.frame o0 fun b hb => ?_
  have hbl := bl0.2 b (hb)
  simp only [AB] at hbl
  simp only [H2.set]
  rw [if_neg (by omega), if_neg (by omega)]
  rw [show g1.get b = _ from l1.2 b (by simp only [AG]; omega)]
  simp only [hg, H2.set]
  rw [if_neg (by omega)]
 ·refine OT.frame o1 fun b hb => ?_
  have hbl := bl1.2 b (hb)
  simp only [AG] at hbl
  simp only [H2.set]
  rw [if_neg (by omega), if_neg (by omega)]
 ·simp only [AG]
  have m0 := bl0
  simp only [AB] at m0
  have m1 := bl1
  simp only [AG] at m1
  have := ((Bl.append m0 m1 (by omega) (by omega))).wide (N' := hn h .mk) (by omega) (Nat.le_refl _)
  simpa only [List.append_assoc] using this
end Go.Bi
end
section
set_option maxRecDepth 20000
namespace Go.Bi
open Go.Proofs
open Go.Ai (wrap_i64 wrap_u64 wrap_u8)
variable {W0 : World}
structure Aj where
 gain1 : List Int
 q : AR
 k : AR
 v : AR
 o : AR
 gain2 : List Int
 up : AR
 down : AR
instance : Inhabited Aj := ⟨⟨default, default, default, default, default, default, default, default⟩⟩
def DP (c : Aj) : List T := [.l 1 (ints c.gain1), .v (.int .i64 c.q.width), .l 1 (AE c.q.rows), .l 1 (AE c.q.scales), .v (.int .i64 c.q.mul), .v (.int .i64 c.q.shift), .v (.int .i64 c.k.width), .l 1 (AE c.k.rows), .l 1 (AE c.k.scales), .v (.int .i64 c.k.mul), .v (.int .i64 c.k.shift), .v (.int .i64 c.v.width), .l 1 (AE c.v.rows), .l 1 (AE c.v.scales), .v (.int .i64 c.v.mul), .v (.int .i64 c.v.shift), .v (.int .i64 c.o.width), .l 1 (AE c.o.rows), .l 1 (AE c.o.scales), .v (.int .i64 c.o.mul), .v (.int .i64 c.o.shift), .l 1 (ints c.gain2), .v (.int .i64 c.up.width), .l 1 (AE c.up.rows), .l 1 (AE c.up.scales), .v (.int .i64 c.up.mul), .v (.int .i64 c.up.shift), .v (.int .i64 c.down.width), .l 1 (AE c.down.rows), .l 1 (AE c.down.scales), .v (.int .i64 c.down.mul), .v (.int .i64 c.down.shift)]
def C1 (F : Nat → AQ) (c : Aj) : List X := [.sl (F 0) 1 (ints c.gain1), .raw (.int .i64 c.q.width), .sl (F 2) 1 (AE c.q.rows), .sl (F 3) 1 (AE c.q.scales), .raw (.int .i64 c.q.mul), .raw (.int .i64 c.q.shift), .raw (.int .i64 c.k.width), .sl (F 7) 1 (AE c.k.rows), .sl (F 8) 1 (AE c.k.scales), .raw (.int .i64 c.k.mul), .raw (.int .i64 c.k.shift), .raw (.int .i64 c.v.width), .sl (F 12) 1 (AE c.v.rows), .sl (F 13) 1 (AE c.v.scales), .raw (.int .i64 c.v.mul), .raw (.int .i64 c.v.shift), .raw (.int .i64 c.o.width), .sl (F 17) 1 (AE c.o.rows), .sl (F 18) 1 (AE c.o.scales), .raw (.int .i64 c.o.mul), .raw (.int .i64 c.o.shift), .sl (F 21) 1 (ints c.gain2), .raw (.int .i64 c.up.width), .sl (F 23) 1 (AE c.up.rows), .sl (F 24) 1 (AE c.up.scales), .raw (.int .i64 c.up.mul), .raw (.int .i64 c.up.shift), .raw (.int .i64 c.down.width), .sl (F 28) 1 (AE c.down.rows), .sl (F 29) 1 (AE c.down.scales), .raw (.int .i64 c.down.mul), .raw (.int .i64 c.down.shift)]
theorem SO {c : Aj} : DP c = [.l 1 (ints c.gain1), .v (.int .i64 c.q.width), .l 1 (AE c.q.rows), .l 1 (AE c.q.scales), .v (.int .i64 c.q.mul), .v (.int .i64 c.q.shift), .v (.int .i64 c.k.width), .l 1 (AE c.k.rows), .l 1 (AE c.k.scales), .v (.int .i64 c.k.mul), .v (.int .i64 c.k.shift), .v (.int .i64 c.v.width), .l 1 (AE c.v.rows), .l 1 (AE c.v.scales), .v (.int .i64 c.v.mul), .v (.int .i64 c.v.shift), .v (.int .i64 c.o.width), .l 1 (AE c.o.rows), .l 1 (AE c.o.scales), .v (.int .i64 c.o.mul), .v (.int .i64 c.o.shift), .l 1 (ints c.gain2), .v (.int .i64 c.up.width), .l 1 (AE c.up.rows), .l 1 (AE c.up.scales), .v (.int .i64 c.up.mul), .v (.int .i64 c.up.shift), .v (.int .i64 c.down.width), .l 1 (AE c.down.rows), .l 1 (AE c.down.scales), .v (.int .i64 c.down.mul), .v (.int .i64 c.down.shift)] := rfl
theorem SL {F : Nat → AQ} {c : Aj} : C1 F c = [.sl (F 0) 1 (ints c.gain1), .raw (.int .i64 c.q.width), .sl (F 2) 1 (AE c.q.rows), .sl (F 3) 1 (AE c.q.scales), .raw (.int .i64 c.q.mul), .raw (.int .i64 c.q.shift), .raw (.int .i64 c.k.width), .sl (F 7) 1 (AE c.k.rows), .sl (F 8) 1 (AE c.k.scales), .raw (.int .i64 c.k.mul), .raw (.int .i64 c.k.shift), .raw (.int .i64 c.v.width), .sl (F 12) 1 (AE c.v.rows), .sl (F 13) 1 (AE c.v.scales), .raw (.int .i64 c.v.mul), .raw (.int .i64 c.v.shift), .raw (.int .i64 c.o.width), .sl (F 17) 1 (AE c.o.rows), .sl (F 18) 1 (AE c.o.scales), .raw (.int .i64 c.o.mul), .raw (.int .i64 c.o.shift), .sl (F 21) 1 (ints c.gain2), .raw (.int .i64 c.up.width), .sl (F 23) 1 (AE c.up.rows), .sl (F 24) 1 (AE c.up.scales), .raw (.int .i64 c.up.mul), .raw (.int .i64 c.up.shift), .raw (.int .i64 c.down.width), .sl (F 28) 1 (AE c.down.rows), .sl (F 29) 1 (AE c.down.scales), .raw (.int .i64 c.down.mul), .raw (.int .i64 c.down.shift)] := rfl
def BK (c : Aj) : Nat := c.gain1.length + A0 c.q + A0 c.k + A0 c.v + A0 c.o + c.gain2.length + A0 c.up + A0 c.down
def Ez (c : Aj) : Prop := c.gain1.length ≤ 9223372036854775807 ∧ By c.q ∧ By c.k ∧ By c.v ∧ By c.o ∧ c.gain2.length ≤ 9223372036854775807 ∧ By c.up ∧ By c.down
attribute [go_sem] SO SL
theorem YL {g : H2} {c : Aj} {b0 b2 b3 b7 b8 b12 b13 b17 b18 b21 b23 b24 b28 b29 : List Nat} {s0 s2 s3 s7 s8 s12 s13 s17 s18 s21 s23 s24 s28 s29 : X} (a0 : OT g b0 s0 (.l 1 (ints c.gain1))) (a2 : OT g b2 s2 (.l 1 (AE c.q.rows))) (a3 : OT g b3 s3 (.l 1 (AE c.q.scales))) (a7 : OT g b7 s7 (.l 1 (AE c.k.rows))) (a8 : OT g b8 s8 (.l 1 (AE c.k.scales))) (a12 : OT g b12 s12 (.l 1 (AE c.v.rows))) (a13 : OT g b13 s13 (.l 1 (AE c.v.scales))) (a17 : OT g b17 s17 (.l 1 (AE c.o.rows))) (a18 : OT g b18 s18 (.l 1 (AE c.o.scales))) (a21 : OT g b21 s21 (.l 1 (ints c.gain2))) (a23 : OT g b23 s23 (.l 1 (AE c.up.rows))) (a24 : OT g b24 s24 (.l 1 (AE c.up.scales))) (a28 : OT g b28 s28 (.l 1 (AE c.down.rows))) (a29 : OT g b29 s29 (.l 1 (AE c.down.scales))) : Ak g (b0 ++ (b2 ++ (b3 ++ (b7 ++ (b8 ++ (b12 ++ (b13 ++ (b17 ++ (b18 ++ (b21 ++ (b23 ++ (b24 ++ (b28 ++ b29))))))))))))) [s0, .raw (.int .i64 c.q.width), s2, s3, .raw (.int .i64 c.q.mul), .raw (.int .i64 c.q.shift), .raw (.int .i64 c.k.width), s7, s8, .raw (.int .i64 c.k.mul), .raw (.int .i64 c.k.shift), .raw (.int .i64 c.v.width), s12, s13, .raw (.int .i64 c.v.mul), .raw (.int .i64 c.v.shift), .raw (.int .i64 c.o.width), s17, s18, .raw (.int .i64 c.o.mul), .raw (.int .i64 c.o.shift), s21, .raw (.int .i64 c.up.width), s23, s24, .raw (.int .i64 c.up.mul), .raw (.int .i64 c.up.shift), .raw (.int .i64 c.down.width), s28, s29, .raw (.int .i64 c.down.mul), .raw (.int .i64 c.down.shift)] (DP c) := by
 have := Ak.cons a0 (Ak.cons (OT.raw (v := .int .i64 c.q.width) rfl) (Ak.cons a2 (Ak.cons a3 (Ak.cons (OT.raw (v := .int .i64 c.q.mul) rfl) (Ak.cons (OT.raw (v := .int .i64 c.q.shift) rfl) (Ak.cons (OT.raw (v := .int .i64 c.k.width) rfl) (Ak.cons a7 (Ak.cons a8 (Ak.cons (OT.raw (v := .int .i64 c.k.mul) rfl) (Ak.cons (OT.raw (v := .int .i64 c.k.shift) rfl) (Ak.cons (OT.raw (v := .int .i64 c.v.width) rfl) (Ak.cons a12 (Ak.cons a13 (Ak.cons (OT.raw (v := .int .i64 c.v.mul) rfl) (Ak.cons (OT.raw (v := .int .i64 c.v.shift) rfl) (Ak.cons (OT.raw (v := .int .i64 c.o.width) rfl) (Ak.cons a17 (Ak.cons a18 (Ak.cons (OT.raw (v := .int .i64 c.o.mul) rfl) (Ak.cons (OT.raw (v := .int .i64 c.o.shift) rfl) (Ak.cons a21 (Ak.cons (OT.raw (v := .int .i64 c.up.width) rfl) (Ak.cons a23 (Ak.cons a24 (Ak.cons (OT.raw (v := .int .i64 c.up.mul) rfl) (Ak.cons (OT.raw (v := .int .i64 c.up.shift) rfl) (Ak.cons (OT.raw (v := .int .i64 c.down.width) rfl) (Ak.cons a28 (Ak.cons a29 (Ak.cons (OT.raw (v := .int .i64 c.down.mul) rfl) (Ak.cons (OT.raw (v := .int .i64 c.down.shift) rfl) (Ak.nil))))))))))))))))))))))))))))))))
 simpa only [DP, List.append_nil, List.nil_append] using this
theorem Rw {F : Nat → AQ} {c : Aj} {left : Int} {h : H2} (hf : Ez c) (hl : 0 ≤ left ∧ left ≤ 1048576) : PW Tryz.prog W0 96 [.st (C1 F c), .raw (.int .i64 left)] h (fun y => ∃ k : Int, y = .raw (.int .i64 k) ∧ (0 ≤ k → (BK c : Int) + k ≤ left)) := by
 unfold Ez at hf
 refine PW.scalar ?_
 refine AH [[0, 1], [1, 2], [1, 2], [], [1, 2], [1, 2], [], [1, 2], [1, 2], [], [1, 2], [1, 2], [], [1, 2], [1, 2], [], [1, 2], [1, 2], [], [1, 2], [1, 2], [], [1, 2], [1], [], [1]] Tryz.func96 rfl (rs := [.tmp 4]) rfl rfl ?_
 intro wf
 refine zr ?_
 refine AD (H6  hf.1 ⟨by omega, by omega⟩) ?_
 rintro _ n0 hn0 ⟨k0, rfl, hk0⟩
 refine zr ?_
 refine AN (fun q0 => ?_) (fun q0 => ?_)
 ·refine zr ?_
  exact ⟨AZ, ⟨_, rfl⟩, _, rfl, fun hh => by omega⟩
 refine zr ?_
 refine AD (Cc (F := fun j => F (j + 1)) hf.2.1 ⟨by omega, by omega⟩) ?_
 rintro _ n1 hn1 ⟨k1, rfl, hk1⟩
 refine zr ?_
 refine AN (fun q1 => ?_) (fun q1 => ?_)
 ·refine zr ?_
  exact ⟨AZ, ⟨_, rfl⟩, _, rfl, fun hh => by omega⟩
 refine zr ?_
 refine AD (Cc (F := fun j => F (j + 6)) hf.2.2.1 ⟨by omega, by omega⟩) ?_
 rintro _ n2 hn2 ⟨k2, rfl, hk2⟩
 refine zr ?_
 refine AN (fun q2 => ?_) (fun q2 => ?_)
 ·refine zr ?_
  exact ⟨AZ, ⟨_, rfl⟩, _, rfl, fun hh => by omega⟩
 refine zr ?_
 refine AD (Cc (F := fun j => F (j + 11)) hf.2.2.2.1 ⟨by omega, by omega⟩) ?_
 rintro _ n3 hn3 ⟨k3, rfl, hk3⟩
 refine zr ?_
 refine AN (fun q3 => ?_) (fun q3 => ?_)
 ·refine zr ?_
  exact ⟨AZ, ⟨_, rfl⟩, _, rfl, fun hh => by omega⟩
 refine zr ?_
 refine AD (Cc (F := fun j => F (j + 16)) hf.2.2.2.2.1 ⟨by omega, by omega⟩) ?_
 rintro _ n4 hn4 ⟨k4, rfl, hk4⟩
 refine zr ?_
 refine AN (fun q4 => ?_) (fun q4 => ?_)
 ·refine zr ?_
  exact ⟨AZ, ⟨_, rfl⟩, _, rfl, fun hh => by omega⟩
 refine zr ?_
 refine AD (H6  hf.2.2.2.2.2.1 ⟨by omega, by omega⟩) ?_
 rintro _ n5 hn5 ⟨k5, rfl, hk5⟩
 refine zr ?_
 refine AN (fun q5 => ?_) (fun q5 => ?_)
 ·refine zr ?_
  exact ⟨AZ, ⟨_, rfl⟩, _, rfl, fun hh => by omega⟩
 refine zr ?_
 refine AD (Cc (F := fun j => F (j + 22)) hf.2.2.2.2.2.2.1 ⟨by omega, by omega⟩) ?_
 rintro _ n6 hn6 ⟨k6, rfl, hk6⟩
 refine zr ?_
 refine AN (fun q6 => ?_) (fun q6 => ?_)
 ·refine zr ?_
  exact ⟨AZ, ⟨_, rfl⟩, _, rfl, fun hh => by omega⟩
 refine zr ?_
 refine AD (Cc (F := fun j => F (j + 27)) hf.2.2.2.2.2.2.2 ⟨by omega, by omega⟩) ?_
 rintro _ n7 hn7 ⟨k7, rfl, hk7⟩
 refine zr ?_
 refine AN (fun q7 => ?_) (fun q7 => ?_)
 ·refine zr ?_
  exact ⟨AZ, ⟨_, rfl⟩, _, rfl, fun hh => by omega⟩
 refine zr ?_
 exact ⟨AZ, ⟨_, rfl⟩, _, rfl, fun hh => by unfold BK; omega⟩
theorem Q5 {F F' : Nat → AQ} {c : Aj} {h : H2} (hf : Ez c) : PW Tryz.prog W0 140 [.st (C1 F c), .st (C1 F' c)] h (fun y => y = .raw (.bool true)) := by
 unfold Ez at hf
 refine PW.scalar ?_
 refine AH [[0, 1], [2, 3], [], [2, 3], [], [2, 3], [], [2, 3], [], [2, 3], [], [2, 3], [], [2, 3], [], [2, 3], [], []] Tryz.func140 rfl (rs := [.tmp 4]) rfl rfl ?_
 intro wf
 refine zr ?_
 refine AD (Fg  hf.1) ?_
 rintro _ n0 hn0 rfl
 refine zr ?_
 refine AD (Cb (F := fun j => F (j + 1)) (F' := fun j => F' (j + 1)) hf.2.1) ?_
 rintro _ n1 hn1 rfl
 refine zr ?_
 refine AD (Cb (F := fun j => F (j + 6)) (F' := fun j => F' (j + 6)) hf.2.2.1) ?_
 rintro _ n2 hn2 rfl
 refine zr ?_
 refine AD (Cb (F := fun j => F (j + 11)) (F' := fun j => F' (j + 11)) hf.2.2.2.1) ?_
 rintro _ n3 hn3 rfl
 refine zr ?_
 refine AD (Cb (F := fun j => F (j + 16)) (F' := fun j => F' (j + 16)) hf.2.2.2.2.1) ?_
 rintro _ n4 hn4 rfl
 refine zr ?_
 refine AD (Fg  hf.2.2.2.2.2.1) ?_
 rintro _ n5 hn5 rfl
 refine zr ?_
 refine AD (Cb (F := fun j => F (j + 22)) (F' := fun j => F' (j + 22)) hf.2.2.2.2.2.2.1) ?_
 rintro _ n6 hn6 rfl
 refine zr ?_
 refine AD (Cb (F := fun j => F (j + 27)) (F' := fun j => F' (j + 27)) hf.2.2.2.2.2.2.2) ?_
 rintro _ n7 hn7 rfl
 refine zr ?_
 exact ⟨AZ, ⟨_, rfl⟩, rfl⟩
theorem R7 {F : Nat → AQ} {c : Aj} {h : H2} (hs : BK c ≤ 1048576) : Tz Tryz.prog W0 115 [.st (C1 F c)] h (DP c) := by
 unfold BK at hs
 refine AH [[0], [1, 2], [1, 2, 3], [1, 2, 3], [1, 2, 3], [1, 2, 3], [1, 2, 3], [1, 2, 3], [1, 2, 3], [1, 2, 3], [2, 3]] Tryz.func115 rfl (rs := [.cell 2 152]) rfl rfl ?_
 intro wf
 refine zr ?_
 refine AA (Cf  (by omega)) ?_
 rintro s0 g0 ⟨l0, b0, o0, bl0⟩
 have ce0 := OT.cell o0
 have n0 := l0.n
 have a00 := l0.2 (hn h .mk) (by simp only [AB]; omega)
 have a01 := l0.2 (hn h .mk + 1) (by simp only [AB]; omega)
 have a02 := l0.2 (hn h .mk + 1 + 1) (by simp only [AB]; omega)
 simp -dsimp -implicitDefEqProofs only [go_sem, Av] at n0 a00 a01 a02
 have L0 : h.le g0 := H2.le.trans AZ l0
 refine DH a00 a02 ce0 ?_
 refine AA (Ck (F := fun j => F (j + 1)) (by omega)) ?_
 rintro _ g1 ⟨l1, ys1, b1, rfl, o1, bl1⟩
 obtain ⟨b1_1, s2, b1_2, s3, rfl, hb1, o1_1, o1_2⟩ := Dt o1
 have ce2 := OT.cell o1_1
 have ce3 := OT.cell o1_2
 have n1 := l1.n
 have a10 := l1.2 (hn h .mk) (by simp only [AG]; omega)
 have a11 := l1.2 (hn h .mk + 1) (by simp only [AG]; omega)
 have a12 := l1.2 (hn h .mk + 1 + 1) (by simp only [AG]; omega)
 simp -dsimp -implicitDefEqProofs only [go_sem, a00, a01, Av] at n1 a10 a11 a12
 have L1 : h.le g1 := H2.le.trans AZ l1
 refine Cu a10 a12 ce2 ce3 ?_
 refine AA (Ck (F := fun j => F (j + 6)) (by omega)) ?_
 rintro _ g2 ⟨l2, ys2, b2, rfl, o2, bl2⟩
 obtain ⟨b2_1, s7, b2_2, s8, rfl, hb2, o2_1, o2_2⟩ := Dt o2
 have ce7 := OT.cell o2_1
 have ce8 := OT.cell o2_2
 have n2 := l2.n
 have a20 := l2.2 (hn h .mk) (by simp only [AG]; omega)
 have a21 := l2.2 (hn h .mk + 1) (by simp only [AG]; omega)
 have a22 := l2.2 (hn h .mk + 1 + 1) (by simp only [AG]; omega)
 simp -dsimp -implicitDefEqProofs only [go_sem, a10, a11, Av] at n2 a20 a21 a22
 have L2 : h.le g2 := H2.le.trans AZ l2
 refine Cu a20 a22 ce7 ce8 ?_
 refine AA (Ck (F := fun j => F (j + 11)) (by omega)) ?_
 rintro _ g3 ⟨l3, ys3, b3, rfl, o3, bl3⟩
 obtain ⟨b3_1, s12, b3_2, s13, rfl, hb3, o3_1, o3_2⟩ := Dt o3
 have ce12 := OT.cell o3_1
 have ce13 := OT.cell o3_2
 have n3 := l3.n
 have a30 := l3.2 (hn h .mk) (by simp only [AG]; omega)
 have a31 := l3.2 (hn h .mk + 1) (by simp only [AG]; omega)
 have a32 := l3.2 (hn h .mk + 1 + 1) (by simp only [AG]; omega)
 simp -dsimp -implicitDefEqProofs only [go_sem, a20, a21, Av] at n3 a30 a31 a32
 have L3 : h.le g3 := H2.le.trans AZ l3
 refine Cu a30 a32 ce12 ce13 ?_
 refine AA (Ck (F := fun j => F (j + 16)) (by omega)) ?_
 rintro _ g4 ⟨l4, ys4, b4, rfl, o4, bl4⟩
 obtain ⟨b4_1, s17, b4_2, s18, rfl, hb4, o4_1, o4_2⟩ := Dt o4
 have ce17 := OT.cell o4_1
 have ce18 := OT.cell o4_2
 have n4 := l4.n
 have a40 := l4.2 (hn h .mk) (by simp only [AG]; omega)
 have a41 := l4.2 (hn h .mk + 1) (by simp only [AG]; omega)
 have a42 := l4.2 (hn h .mk + 1 + 1) (by simp only [AG]; omega)
 simp -dsimp -implicitDefEqProofs only [go_sem, a30, a31, Av] at n4 a40 a41 a42
 have L4 : h.le g4 := H2.le.trans AZ l4
 refine Cu a40 a42 ce17 ce18 ?_
 refine AA (Cf  (by omega)) ?_
 rintro s21 g5 ⟨l5, b5, o5, bl5⟩
 have ce21 := OT.cell o5
 have n5 := l5.n
 have a50 := l5.2 (hn h .mk) (by simp only [AG]; omega)
 have a51 := l5.2 (hn h .mk + 1) (by simp only [AG]; omega)
 have a52 := l5.2 (hn h .mk + 1 + 1) (by simp only [AG]; omega)
 simp -dsimp -implicitDefEqProofs only [go_sem, a40, a41, Av] at n5 a50 a51 a52
 have L5 : h.le g5 := H2.le.trans AZ l5
 refine DH a50 a52 ce21 ?_
 refine AA (Ck (F := fun j => F (j + 22)) (by omega)) ?_
 rintro _ g6 ⟨l6, ys6, b6, rfl, o6, bl6⟩
 obtain ⟨b6_1, s23, b6_2, s24, rfl, hb6, o6_1, o6_2⟩ := Dt o6
 have ce23 := OT.cell o6_1
 have ce24 := OT.cell o6_2
 have n6 := l6.n
 have a60 := l6.2 (hn h .mk) (by simp only [AG]; omega)
 have a61 := l6.2 (hn h .mk + 1) (by simp only [AG]; omega)
 have a62 := l6.2 (hn h .mk + 1 + 1) (by simp only [AG]; omega)
 simp -dsimp -implicitDefEqProofs only [go_sem, a50, a51, Av] at n6 a60 a61 a62
 have L6 : h.le g6 := H2.le.trans AZ l6
 refine Cu a60 a62 ce23 ce24 ?_
 refine AA (Ck (F := fun j => F (j + 27)) (by omega)) ?_
 rintro _ g7 ⟨l7, ys7, b7, rfl, o7, bl7⟩
 obtain ⟨b7_1, s28, b7_2, s29, rfl, hb7, o7_1, o7_2⟩ := Dt o7
 have ce28 := OT.cell o7_1
 have ce29 := OT.cell o7_2
 have n7 := l7.n
 have a70 := l7.2 (hn h .mk) (by simp only [AG]; omega)
 have a71 := l7.2 (hn h .mk + 1) (by simp only [AG]; omega)
 have a72 := l7.2 (hn h .mk + 1 + 1) (by simp only [AG]; omega)
 simp -dsimp -implicitDefEqProofs only [go_sem, a60, a61, Av] at n7 a70 a71 a72
 have L7 : h.le g7 := H2.le.trans AZ l7
 repeat (first | rw [ko] | rw [kr] | simp -dsimp -implicitDefEqProofs only [go_sem, sQ1, sQ2, a71, a72, ce0, ce2, ce3, ce7, ce8, ce12, ce13, ce17, ce18, ce21, ce23, ce24, ce28, ce29])
 refine ⟨AZ, _, b0 ++ (b1_1 ++ (b1_2 ++ (b2_1 ++ (b2_2 ++ (b3_1 ++ (b3_2 ++ (b4_1 ++ (b4_2 ++ (b5 ++ (b6_1 ++ (b6_2 ++ (b7_1 ++ b7_2)))))))))))), rfl, YL (c := c) ?_ ?_ ?_ ?_ ?_ ?_ ?_ ?_ ?_ ?_ ?_ ?_ ?_ ?_, ?_⟩
 ·refine OT.frame o0 fun b hb => ?_
  have hbl := bl0.2 b (hb)
  simp only [AB] at hbl
  simp only [H2.set]
  rw [if_neg (by omega), if_neg (by omega)]
  rw [show g7.get b = _ from l7.2 b (by simp only [AG]; omega)]
  simp only [hg, H2.set]
  rw [if_neg (by omega)]
  rw [show g6.get b = _ from l6.2 b (by simp only [AG]; omega)]
  simp only [hg, H2.set]
  rw [if_neg (by omega)]
  rw [show g5.get b = _ from l5.2 b (by simp only [AG]; omega)]
  simp only [hg, H2.set]
  rw [if_neg (by omega)]
  rw [show g4.get b = _ from l4.2 b (by simp only [AG]; omega)]
  simp only [hg, H2.set]
  rw [if_neg (by omega)]
  rw [show g3.get b = _ from l3.2 b (by simp only [AG]; omega)]
  simp only [hg, H2.set]
  rw [if_neg (by omega)]
  rw [show g2.get b = _ from l2.2 b (by simp only [AG]; omega)]
  simp only [hg, H2.set]
  rw [if_neg (by omega)]
  rw [show g1.get b = _ from l1.2 b (by simp only [AG]; omega)]
  simp only [hg, H2.set]
  rw [if_neg (by omega)]
 ·refine OT.frame o1_1 fun b hb => ?_
  have hbl := bl1.2 b (by rw [hb1]; simp [hb])
  simp only [AG] at hbl
  simp only [H2.set]
  rw [if_neg (by omega), if_neg (by omega)]
  rw [show g7.get b = _ from l7.2 b (by simp only [AG]; omega)]
  simp only [hg, H2.set]
  rw [if_neg (by omega)]
  rw [show g6.get b = _ from l6.2 b (by simp only [AG]; omega)]
  simp only [hg, H2.set]
  rw [if_neg (by omega)]
  rw [show g5.get b = _ from l5.2 b (by simp only [AG]; omega)]
  simp only [hg, H2.set]
  rw [if_neg (by omega)]
  rw [show g4.get b = _ from l4.2 b (by simp only [AG]; omega)]
  simp only [hg, H2.set]
  rw [if_neg (by omega)]
  rw [show g3.get b = _ from l3.2 b (by simp only [AG]; omega)]
  simp only [hg, H2.set]
  rw [if_neg (by omega)]
  rw [show g2.get b = _ from l2.2 b (by simp only [AG]; omega)]
  simp only [hg, H2.set]
  rw [if_neg (by omega)]
 ·refine OT.frame o1_2 fun b hb => ?_
  have hbl := bl1.2 b (by rw [hb1]; simp [hb])
  simp only [AG] at hbl
  simp only [H2.set]
  rw [if_neg (by omega), if_neg (by omega)]
  rw [show g7.get b = _ from l7.2 b (by simp only [AG]; omega)]
  simp only [hg, H2.set]
  rw [if_neg (by omega)]
  rw [show g6.get b = _ from l6.2 b (by simp only [AG]; omega)]
  simp only [hg, H2.set]
  rw [if_neg (by omega)]
  rw [show g5.get b = _ from l5.2 b (by simp only [AG]; omega)]
  simp only [hg, H2.set]
  rw [if_neg (by omega)]
  rw [show g4.get b = _ from l4.2 b (by simp only [AG]; omega)]
  simp only [hg, H2.set]
  rw [if_neg (by omega)]
  rw [show g3.get b = _ from l3.2 b (by simp only [AG]; omega)]
  simp only [hg, H2.set]
  rw [if_neg (by omega)]
  rw [show g2.get b = _ from l2.2 b (by simp only [AG]; omega)]
  simp only [hg, H2.set]
  rw [if_neg (by omega)]
 ·refine OT.frame o2_1 fun b hb => ?_
  have hbl := bl2.2 b (by rw [hb2]; simp [hb])
  simp only [AG] at hbl
  simp only [H2.set]
  rw [if_neg (by omega), if_neg (by omega)]
  rw [show g7.get b = _ from l7.2 b (by simp only [AG]; omega)]
  simp only [hg, H2.set]
  rw [if_neg (by omega)]
  rw [show g6.get b = _ from l6.2 b (by simp only [AG]; omega)]
  simp only [hg, H2.set]
  rw [if_neg (by omega)]
  rw [show g5.get b = _ from l5.2 b (by simp only [AG]; omega)]
  simp only [hg, H2.set]
  rw [if_neg (by omega)]
  rw [show g4.get b = _ from l4.2 b (by simp only [AG]; omega)]
  simp only [hg, H2.set]
  rw [if_neg (by omega)]
  rw [show g3.get b = _ from l3.2 b (by simp only [AG]; omega)]
  simp only [hg, H2.set]
  rw [if_neg (by omega)]
 ·refine OT.frame o2_2 fun b hb => ?_
  have hbl := bl2.2 b (by rw [hb2]; simp [hb])
  simp only [AG] at hbl
  simp only [H2.set]
  rw [if_neg (by omega), if_neg (by omega)]
  rw [show g7.get b = _ from l7.2 b (by simp only [AG]; omega)]
  simp only [hg, H2.set]
  rw [if_neg (by omega)]
  rw [show g6.get b = _ from l6.2 b (by simp only [AG]; omega)]
  simp only [hg, H2.set]
  rw [if_neg (by omega)]
  rw [show g5.get b = _ from l5.2 b (by simp only [AG]; omega)]
  simp only [hg, H2.set]
  rw [if_neg (by omega)]
  rw [show g4.get b = _ from l4.2 b (by simp only [AG]; omega)]
  simp only [hg, H2.set]
  rw [if_neg (by omega)]
  rw [show g3.get b = _ from l3.2 b (by simp only [AG]; omega)]
  simp only [hg, H2.set]
  rw [if_neg (by omega)]
 ·refine OT.frame o3_1 fun b hb => ?_
  have hbl := bl3.2 b (by rw [hb3]; simp [hb])
  simp only [AG] at hbl
  simp only [H2.set]
  rw [if_neg (by omega), if_neg (by omega)]
  rw [show g7.get b = _ from l7.2 b (by simp only [AG]; omega)]
  simp only [hg, H2.set]
  rw [if_neg (by omega)]
  rw [show g6.get b = _ from l6.2 b (by simp only [AG]; omega)]
  simp only [hg, H2.set]
  rw [if_neg (by omega)]
  rw [show g5.get b = _ from l5.2 b (by simp only [AG]; omega)]
  simp only [hg, H2.set]
  rw [if_neg (by omega)]
  rw [show g4.get b = _ from l4.2 b (by simp only [AG]; omega)]
  simp only [hg, H2.set]
  rw [if_neg (by omega)]
 ·refine OT.frame o3_2 fun b hb => ?_
  have hbl := bl3.2 b (by rw [hb3]; simp [hb])
  simp only [AG] at hbl
  simp only [H2.set]
  rw [if_neg (by omega), if_neg (by omega)]
  rw [show g7.get b = _ from l7.2 b (by simp only [AG]; omega)]
  simp only [hg, H2.set]
  rw [if_neg (by omega)]
  rw [show g6.get b = _ from l6.2 b (by simp only [AG]; omega)]
  simp only [hg, H2.set]
  rw [if_neg (by omega)]
  rw [show g5.get b = _ from l5.2 b (by simp only [AG]; omega)]
  simp only [hg, H2.set]
  rw [if_neg (by omega)]
  rw [show g4.get b = _ from l4.2 b (by simp only [AG]; omega)]
  simp only [hg, H2.set]
  rw [if_neg (by omega)]
 ·refine OT.frame o4_1 fun b hb => ?_
  have hbl := bl4.2 b (by rw [hb4]; simp [hb])
  simp only [AG] at hbl
  simp only [H2.set]
  rw [if_neg (by omega), if_neg (by omega)]
  rw [show g7.get b = _ from l7.2 b (by simp only [AG]; omega)]
  simp only [hg, H2.set]
  rw [if_neg (by omega)]
  rw [show g6.get b = _ from l6.2 b (by simp only [AG]; omega)]
  simp only [hg, H2.set]
  rw [if_neg (by omega)]
  rw [show g5.get b = _ from l5.2 b (by simp only [AG]; omega)]
  simp only [hg, H2.set]
  rw [if_neg (by omega)]
 ·refine OT.frame o4_2 fun b hb => ?_
  have hbl := bl4.2 b (by rw [hb4]; simp [hb])
  simp only [AG] at hbl
  simp only [H2.set]
  rw [if_neg (by omega), if_neg (by omega)]
  rw [show g7.get b = _ from l7.2 b (by simp only [AG]; omega)]
  simp only [hg, H2.set]
  rw [if_neg (by omega)]
  rw [show g6.get b = _ from l6.2 b (by simp only [AG]; omega)]
  simp only [hg, H2.set]
  rw [if_neg (by omega)]
  rw [show g5.get b = _ from l5.2 b (by simp only [AG]; omega)]
  simp only [hg, H2.set]
  rw [if_neg (by omega)]
 ·refine OT.frame o5 fun b hb => ?_
  have hbl := bl5.2 b (hb)
  simp only [AG] at hbl
  simp only [H2.set]
  rw [if_neg (by omega), if_neg (by omega)]
  rw [show g7.get b = _ from l7.2 b (by simp only [AG]; omega)]
  simp only [hg, H2.set]
  rw [if_neg (by omega)]
  rw [show g6.get b = _ from l6.2 b (by simp only [AG]; omega)]
  simp only [hg, H2.set]
  rw [if_neg (by omega)]
 ·refine OT.frame o6_1 fun b hb => ?_
  have hbl := bl6.2 b (by rw [hb6]; simp [hb])
  simp only [AG] at hbl
  simp only [H2.set]
  rw [if_neg (by omega), if_neg (by omega)]
  rw [show g7.get b = _ from l7.2 b (by simp only [AG]; omega)]
  simp only [hg, H2.set]
  rw [if_neg (by omega)]
 ·refine OT.frame o6_2 fun b hb => ?_
  have hbl := bl6.2 b (by rw [hb6]; simp [hb])
  simp only [AG] at hbl
  simp only [H2.set]
  rw [if_neg (by omega), if_neg (by omega)]
  rw [show g7.get b = _ from l7.2 b (by simp only [AG]; omega)]
  simp only [hg, H2.set]
  rw [if_neg (by omega)]
 ·refine OT.frame o7_1 fun b hb => ?_
  have hbl := bl7.2 b (by rw [hb7]; simp [hb])
  simp only [AG] at hbl
  simp only [H2.set]
  rw [if_neg (by omega), if_neg (by omega)]
 ·refine OT.frame o7_2 fun b hb => ?_
  have hbl := bl7.2 b (by rw [hb7]; simp [hb])
  simp only [AG] at hbl
  simp only [H2.set]
  rw [if_neg (by omega), if_neg (by omega)]
 ·simp only [AG]
  have m0 := bl0
  simp only [AB] at m0
  have m1 := bl1
  simp only [AG] at m1
  rw [hb1] at m1
  have m2 := bl2
  simp only [AG] at m2
  rw [hb2] at m2
  have m3 := bl3
  simp only [AG] at m3
  rw [hb3] at m3
  have m4 := bl4
  simp only [AG] at m4
  rw [hb4] at m4
  have m5 := bl5
  simp only [AG] at m5
  have m6 := bl6
  simp only [AG] at m6
  rw [hb6] at m6
  have m7 := bl7
  simp only [AG] at m7
  rw [hb7] at m7
  have := ((Bl.append m0 (Bl.append m1 (Bl.append m2 (Bl.append m3 (Bl.append m4 (Bl.append m5 (Bl.append m6 m7 (by omega) (by omega)) (by omega) (by omega)) (by omega) (by omega)) (by omega) (by omega)) (by omega) (by omega)) (by omega) (by omega)) (by omega) (by omega))).wide (N' := hn h .mk) (by omega) (Nat.le_refl _)
  simpa only [List.append_assoc] using this
end Go.Bi
end
