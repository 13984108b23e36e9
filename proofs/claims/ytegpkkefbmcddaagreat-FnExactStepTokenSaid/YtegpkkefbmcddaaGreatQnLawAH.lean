/- Own lemmas that the theorem of this claim needs: the abstract machine and walks of functions. -/
import Derived.Test.YtegpkkefbmcddaaGreatQnLawAG
set_option linter.unusedSimpArgs false
set_option linter.unusedVariables false
open Nat renaming reduceBEq → sQ1, reduceAdd → sQ2, reduceLeDiff → sQ3, reduceMul → sQ4
open Int renaming reduceLE → sQ5, reduceLT → sQ6, reduceBEq → sQ7
section
set_option maxRecDepth 20000
namespace Go.Bi
open Go.Proofs
open Go.Ai (wrap_i64)
variable {W0 : World}
theorem hoo (x : Nat) : (x == x) = true := by simp
theorem nat_nn (k : Nat) : ((0 : Int) ≤ (k : Int)) = True := eq_true (Int.natCast_nonneg k)
theorem wrap_succ {k n : Nat} (hk : k < n) (hn : n ≤ 9223372036854775807) : IntKind.i64.wrap ((k : Int) + 1) = ((k + 1 : Nat) : Int) := by rw [wrap_i64] <;> omega
attribute [go_sem] hoo nat_nn Int.toNat_natCast eq_self not_true_eq_false Int.natCast_zero true_and and_true
variable {P : Program} {K : KT}
attribute [go_sem] List.cons_append List.nil_append
def inI (x a b : Int) : Bool := decide (a ≤ x) && decide (x ≤ b)
theorem l01In_ok {x a b : Int} {h : H2} : WC2 Tryz.prog W0 101 [.raw (.int .i64 x), .raw (.int .i64 a), .raw (.int .i64 b)] h (fun v h' => v = .raw (.bool (inI x a b)) ∧ h' = h) := by
 refine begins [[0, 1, 2], [0, 1, 2]] Tryz.func101 rfl (rs := [.tmp 6]) rfl rfl ?_
 intro wf
 repeat (first | rw [ko] | rw [kr] | simp -dsimp -implicitDefEqProofs only [go_sem, sQ1])
 refine gz_dec (fun h1 => ?_) (fun h1 => ?_)
 ·repeat (first | rw [ko] | rw [kr] | simp -dsimp -implicitDefEqProofs only [go_sem, sQ1, h1])
  exact ⟨by simp [inI, h1], rfl⟩
 ·repeat (first | rw [ko] | rw [kr] | simp -dsimp -implicitDefEqProofs only [go_sem, h1])
  exact ⟨by simp [inI, h1], rfl⟩
theorem in_ok {x a b : Int} {h : H2} : WC2 Tryz.prog W0 118 [.raw (.int .i64 x), .raw (.int .i64 a), .raw (.int .i64 b)] h (fun v h' => v = .raw (.bool (inI x a b)) ∧ h' = h) := by
 refine begins [[0, 1, 2], [0, 1, 2]] Tryz.func118 rfl (rs := [.tmp 6]) rfl rfl ?_
 intro wf
 repeat (first | rw [ko] | rw [kr] | simp -dsimp -implicitDefEqProofs only [go_sem, sQ1])
 refine gz_dec (fun h1 => ?_) (fun h1 => ?_)
 ·repeat (first | rw [ko] | rw [kr] | simp -dsimp -implicitDefEqProofs only [go_sem, sQ1, h1])
  exact ⟨by simp [inI, h1], rfl⟩
 ·repeat (first | rw [ko] | rw [kr] | simp -dsimp -implicitDefEqProofs only [go_sem, h1])
  exact ⟨by simp [inI, h1], rfl⟩
theorem indexI_ok {F : FuncId} {p : Int → Bool} {caps : List Value} {f : Adr} {ss : List Int} {h : H2} (hn0 : ss.length ≤ 9223372036854775807)
  (hf : ∀ s, WC2 Tryz.prog W0 F ([.raw (.int .i64 s)] ++ caps.map .raw) h (fun v h' => v = .raw (.bool (p s)) ∧ h' = h)) :
  WC2 Tryz.prog W0 214 [.sl f 1 (ints ss), .raw (.func (.func F) #[] caps.toArray)] h (fun v h' => (∃ k : Int, v = .raw (.int .i64 k) ∧ decide (0 ≤ k) = ss.any p) ∧ h' = h) := by
 refine begins [[0, 1], [0, 1], [0, 1, 7, 8], [0, 1, 7, 8], [0, 1, 5, 7, 8], [5], [0, 1, 7, 8], []] Tryz.func214 rfl (rs := [.tmp 4]) rfl rfl ?_
 intro wf
 repeat (first | rw [ko] | rw [kr] | simp -dsimp -implicitDefEqProofs only [go_sem])
 refine lz_intro (fun m e h' => h' = h ∧ look e 0 .mk = .sl f 1 (ints ss) ∧ look e 1 .mk = .raw (.func (.func F) #[] caps.toArray) ∧ look e 7 .mk = .raw (.int .i64 ss.length) ∧ ∃ k : Nat, look e 8 .mk = .raw (.int .i64 k) ∧ m + k = ss.length ∧ ∀ j : Nat, j < k → p (ss.getD j default) = false) ss.length ?_ ?_
 ·refine ⟨rfl, ?_, ?_, ?_, 0, ?_, by omega, fun j hj => by omega⟩ <;> simp -dsimp -implicitDefEqProofs only [go_sem, sQ1, Int.natCast_zero]
 ·rintro m e h ⟨rfl, e0, e1, e7, k, e8, hk, hpre⟩
  repeat (first | rw [ko] | rw [kr] | simp -dsimp -implicitDefEqProofs only [go_sem, e0, e1, e7, e8])
  refine gz_dec (fun h2 => ?_) (fun h2 => ?_)
  ·have h3 : k < ss.length := by omega
   repeat (first | rw [ko] | rw [kr] | simp -dsimp -implicitDefEqProofs only [go_sem, sQ1, nat_nn, Int.toNat_natCast, h3])
   refine wz_intro (hf _) ?_
   rintro _ h' ⟨rfl, rfl⟩
   repeat (first | rw [ko] | rw [kr] | simp -dsimp -implicitDefEqProofs only [go_sem])
   refine gz_intro (fun h4 => ?_) (fun h4 => ?_)
   ·repeat (first | rw [ko] | rw [kr] | simp -dsimp -implicitDefEqProofs only [go_sem, sQ1])
    refine ⟨⟨_, rfl, ?_⟩, rfl⟩
    have : ss.any p = true := List.any_eq_true.2 ⟨_, List.getElem_mem h3, by rw [List.getD_eq_getElem?_getD, List.getElem?_eq_getElem h3] at h4; exact h4⟩
    rw [this]; simp
   ·repeat (first | rw [ko] | rw [kr] | simp -dsimp -implicitDefEqProofs only [go_sem, sQ1, wrap_succ h3 hn0])
    refine ⟨m - 1, by omega, rfl, ?_, ?_, ?_, k + 1, ?_, by omega, ?_⟩
    ·simp -dsimp -implicitDefEqProofs only [go_sem, sQ1]
    ·simp -dsimp -implicitDefEqProofs only [go_sem, sQ1]
    ·simp -dsimp -implicitDefEqProofs only [go_sem, sQ1]
    ·simp -dsimp -implicitDefEqProofs only [go_sem]
    ·intro j hj
     by_cases hji : j = k
     ·subst hji; exact h4
     ·exact hpre j (by omega)
  ·repeat (first | rw [ko] | rw [kr] | simp -dsimp -implicitDefEqProofs only [go_sem])
   refine ⟨⟨_, rfl, ?_⟩, rfl⟩
   have : ss.any p = false := by
    rw [List.any_eq_false]
    intro x hx
    obtain ⟨j, hj, rfl⟩ := List.getElem_of_mem hx
    have := hpre j (by omega)
    rw [List.getD_eq_getElem?_getD, List.getElem?_eq_getElem hj] at this
    simpa using this
   rw [this]; rfl
end Go.Bi
end
section
set_option maxRecDepth 20000
namespace Go.Bi
open Go.Proofs
open Go.Ai (wrap_i64)
variable {W0 : World}
variable {P : Program} {D : Nat → Option (List Nat)} {e : E2} {K : KT}
theorem make_intro {h : H2} {t u z y : Nat} {zs : List Value} {l : Int} (he : Ai.elt? P t = some (u, z, y)) (hz : Ai.zr? P u = some zs) (h1 : zs.length = z ∧ 0 < z) (h2 : 0 ≤ l ∧ l.toNat * (y + 1) ≤ Ai.most)
  (hk : kz K (.raw (.slice (some ⟨hn h .mk, 0, none⟩) l.toNat l.toNat)) (h.push ⟨z, (Ai.repL l.toNat zs).map .raw⟩) .mk) : az (makez P h t (.raw (.int .i64 l)) (.raw (.int .i64 l)) .mk) K .mk := by
 have : makez P h t (.raw (.int .i64 l)) (.raw (.int .i64 l)) .mk = some (.raw (.slice (some ⟨h.n, 0, none⟩) l.toNat l.toNat), h.push ⟨z, (Ai.repL l.toNat zs).map .raw⟩) := by
  simp only [makez, makeSliceX, he, hz]
  rw [if_pos ⟨h1.1, h1.2, trivial, h2.1, h2.2⟩]
 rw [this]; exact hk
theorem wrt_set {cs : List X} {o : Nat} {v : X} (ho : o < cs.length) : wrtL cs o [v] = some (cs.set o v) := by
 simp only [wrtL, List.length_cons, List.length_nil]
 rw [if_pos (by omega)]
 congr 1
 rw [List.set_eq_take_append_cons_drop, if_pos ho]
 simp
theorem H2.le_push1 (h : H2) (k : OB) : h.le (h.push k) := le_push (H2.le.refl h)
theorem set_push {h : H2} {k k' : OB} : (h.push k).set (hn h .mk) k' = h.push k' := by
 unfold H2.set H2.push hn; congr 1; funext x; by_cases hx : x = h.n <;> simp [hx]
theorem set_set {h : H2} {b : Nat} {k k' : OB} : (h.set b k).set b k' = h.set b k' := by
 unfold H2.set; congr 1; funext x; by_cases hx : x = b <;> simp [hx]
def eS (s : ByteArray) : List T := [.v (.string s)]
attribute [go_sem] set_push set_set
theorem szIntS_ok {f : Adr} {zs : List Int} {left : Int} {h : H2} (hn0 : zs.length ≤ 9223372036854775807) (hl : 0 ≤ left ∧ left ≤ 1048576) : WC2 Tryz.prog W0 44 [.sl f 1 (ints zs), .raw (.int .i64 left)] h (fun v h' => (∃ k : Int, v = .raw (.int .i64 k) ∧ (0 ≤ k → (zs.length : Int) + k ≤ left)) ∧ h' = h) := by
 have hw : IntKind.i64.wrap (left - zs.length) = left - zs.length := by rw [wrap_i64] <;> omega
 refine begins [[0, 1], [0, 1], [1], [], [1]] Tryz.func44 rfl (rs := [.tmp 4]) rfl rfl ?_
 intro wf
 repeat (first | rw [ko] | rw [kr] | simp -dsimp -implicitDefEqProofs only [go_sem, sQ1, hw])
 refine gz_dec (fun h1 => ?_) (fun h1 => ?_)
 ·repeat (first | rw [ko] | rw [kr] | simp -dsimp -implicitDefEqProofs only [go_sem])
  exact ⟨⟨_, rfl, fun hh => by omega⟩, rfl⟩
 ·repeat (first | rw [ko] | rw [kr] | simp -dsimp -implicitDefEqProofs only [go_sem, sQ1])
  exact ⟨⟨_, rfl, fun hh => by omega⟩, rfl⟩
theorem toIntS_ok {f : Adr} {zs : List Int} {h : H2} (hn0 : zs.length ≤ 1048576) :
  WC2 Tryz.prog W0 26 [.sl f 1 (ints zs)] h (fun v h' => h.le h' ∧ Own (hn h .mk) h' v 1 zs.length (zs.map (fun (z : Int) => X.raw (.int .i64 z)))) := by
 refine begins [[0], [0], [0, 3], [0, 3, 4], [0, 3, 4], [0, 3, 4], [3]] Tryz.func26 rfl (rs := [.tmp 2]) rfl rfl ?_
 intro wf
 repeat (first | rw [ko] | rw [kr] | simp -dsimp -implicitDefEqProofs only [go_sem])
 refine make_intro Ai.ty_el25 Ai.ty_zr3 (by decide) ⟨by omega, by simp only [Int.toNat_natCast]; have : Ai.most = 1099511627776 := rfl; omega⟩ ?_
 repeat (first | rw [ko] | rw [kr] | simp -dsimp -implicitDefEqProofs only [go_sem, sQ1])
 refine lz_keep [0, 3] (fun m e h' => ∃ (k : Nat) (cs : List X), look e 4 .mk = .raw (.int .i64 k) ∧ m + k = zs.length ∧ h' = h.push ⟨1, cs⟩ ∧ cs.length = zs.length ∧ ∀ j : Nat, j < k → cs[j]? = (zs.map (fun (z : Int) => X.raw (.int .i64 z)))[j]?) zs.length ?_ ?_
 ·exact ⟨0, _, by simp -dsimp -implicitDefEqProofs only [go_sem, Int.natCast_zero], by omega, rfl, by simp [Ai.rep_one], fun j hj => by omega⟩
 ·rintro m e h' hks ⟨k, cs, e4, hk, rfl, hcs, hpre⟩
  simp -dsimp -implicitDefEqProofs only [go_sem] at hks
  repeat (first | rw [ko] | rw [kr] | simp -dsimp -implicitDefEqProofs only [go_sem, sQ1, hks, e4])
  refine gz_dec (fun h2 => ?_) (fun h2 => ?_)
  ·have h3 : k < zs.length := by omega
   have hw2 : wrtL cs k [.raw (.int .i64 (zs.getD k default))] = some (cs.set k (.raw (.int .i64 (zs.getD k default)))) := wrt_set (by omega)
   have hi2 : (0 : Int) ≤ (k : Int) ∧ (k : Int) < (zs.length : Int) := by omega
   repeat (first | rw [ko] | rw [kr] | simp -dsimp -implicitDefEqProofs only [go_sem, sQ1, Int.toNat_natCast, h3, hoo, hw2, hi2, wrap_succ h3 (by omega)])
   refine nx_keep (m - 1) (by omega) zsm ⟨k + 1, _, zsm, by omega, rfl, by simpa using hcs, ?_⟩
   intro j hj
   by_cases hji : j = k
   ·subst hji
    rw [List.getElem?_set_self (by omega), List.getElem?_map, List.getD_eq_getElem?_getD, List.getElem?_eq_getElem h3]; rfl
   ·rw [List.getElem?_set_ne (fun e => hji e.symm)]
    exact hpre j (by omega)
  ·repeat (first | rw [ko] | rw [kr] | simp -dsimp -implicitDefEqProofs only [go_sem, sQ1])
   refine ⟨H2.le_push1 h _, ?_⟩
   have : cs = zs.map (fun (z : Int) => X.raw (.int .i64 z)) := by
    apply List.ext_getElem?
    intro j
    by_cases hj : j < k
    ·exact hpre j hj
    ·rw [List.getElem?_eq_none (by omega), List.getElem?_eq_none (by simp; omega)]
   rw [this]
   exact Own.new (Nat.le_refl _) (by simp)
theorem eqIntS_ok {f f' : Adr} {zs : List Int} {h : H2} (hn0 : zs.length ≤ 9223372036854775807) :
  WC2 Tryz.prog W0 16 [.sl f 1 (ints zs), .sl f' 1 (ints zs)] h (fun v h' => v = .raw (.bool true) ∧ h' = h) := by
 refine begins [[0, 1], [0, 1], [], [0, 1], [0, 1, 5], [0, 1, 5], [0, 1, 5], [], []] Tryz.func16 rfl (rs := [.tmp 4]) rfl rfl ?_
 intro wf
 repeat (first | rw [ko] | rw [kr] | simp -dsimp -implicitDefEqProofs only [go_sem, sQ1])
 refine lz_keep [0, 1] (fun m e h' => h' = h ∧ ∃ k : Nat, look e 5 .mk = .raw (.int .i64 k) ∧ m + k = zs.length) zs.length ?_ ?_
 ·exact ⟨rfl, 0, by simp -dsimp -implicitDefEqProofs only [go_sem, Int.natCast_zero], by omega⟩
 ·rintro m e h hks ⟨rfl, k, e5, hk⟩
  simp -dsimp -implicitDefEqProofs only [go_sem, sQ1] at hks
  repeat (first | rw [ko] | rw [kr] | simp -dsimp -implicitDefEqProofs only [go_sem, sQ1, hks, e5])
  refine gz_dec (fun h2 => ?_) (fun h2 => ?_)
  ·have h3 : k < zs.length := by omega
   repeat (first | rw [ko] | rw [kr] | simp -dsimp -implicitDefEqProofs only [go_sem, sQ1])
   refine dq_intro [(0, []), (1, []), (2, []), (3, []), (4, []), (5, []), (6, []), (7, []), (8, [])] (by kernel_rfl) ?_
   repeat (first | rw [ko] | rw [kr] | simp -dsimp -implicitDefEqProofs only [go_sem, sQ1, nat_nn, Int.toNat_natCast, h3, hoo, not_true_eq_false, wrap_succ h3 hn0])
   exact nx_keep (m - 1) (by omega) zsm ⟨rfl, k + 1, zsm, by omega⟩
  ·repeat (first | rw [ko] | rw [kr] | simp -dsimp -implicitDefEqProofs only [go_sem])
   exact ⟨rfl, rfl⟩
def marksI (k : Int) (n : Nat) : List Int := (List.range n).map fun (j : Nat) => k + (j : Int)
theorem marks_len {k : Int} {n : Nat} : (marksI k n).length = n := by simp [marksI]
theorem marks_get {k : Int} {n j : Nat} (hj : j < n) : (marksI k n).getD j default = k + j := by
 rw [List.getD_eq_getElem?_getD, marksI, List.getElem?_map, List.getElem?_range hj]; rfl
theorem heldIntS_ok {f : Adr} {n : Nat} {k0 : Int} {h : H2} (hn0 : n ≤ 9223372036854775807) (hk0 : 0 ≤ k0 ∧ k0 + n ≤ 9223372036854775807) :
  WC2 Tryz.prog W0 24 [.sl f 1 (ints (marksI k0 n)), .raw (.int .i64 k0)] h (fun v h' => v = .raw (.int .i64 (k0 + n)) ∧ h' = h) := by
 refine begins [[0, 1], [0, 1], [0, 1, 5], [0, 1, 5], [0, 1, 5], [], [0, 1, 5], [1]] Tryz.func24 rfl (rs := [.tmp 4]) rfl rfl ?_
 intro wf
 repeat (first | rw [ko] | rw [kr] | simp -dsimp -implicitDefEqProofs only [go_sem])
 refine lz_keep [0] (fun m e h' => h' = h ∧ ∃ k : Nat, look e 5 .mk = .raw (.int .i64 k) ∧ look e 1 .mk = .raw (.int .i64 (k0 + k)) ∧ m + k = n) n ?_ ?_
 ·exact ⟨rfl, 0, by simp -dsimp -implicitDefEqProofs only [go_sem, Int.natCast_zero], by simp -dsimp -implicitDefEqProofs only [go_sem, Int.natCast_zero, Int.add_zero], by omega⟩
 ·rintro m e h hks ⟨rfl, k, e5, e1, hk⟩
  simp -dsimp -implicitDefEqProofs only [go_sem, sQ1] at hks
  repeat (first | rw [ko] | rw [kr] | simp -dsimp -implicitDefEqProofs only [go_sem, sQ1, hks, e5, e1, marks_len])
  refine gz_dec (fun h2 => ?_) (fun h2 => ?_)
  ·have h3 : k < n := by omega
   have hw : IntKind.i64.wrap (k0 + k + 1) = k0 + ((k + 1 : Nat) : Int) := by rw [wrap_i64] <;> omega
   repeat (first | rw [ko] | rw [kr] | simp -dsimp -implicitDefEqProofs only [go_sem, sQ1, marks_len, nat_nn, Int.toNat_natCast, h3, marks_get h3, eq_self, not_true_eq_false, wrap_succ h3 hn0, hw])
   exact nx_keep (m - 1) (by omega) zsm ⟨rfl, k + 1, zsm, zsm, by omega⟩
  ·repeat (first | rw [ko] | rw [kr] | simp -dsimp -implicitDefEqProofs only [go_sem, sQ1])
   have : k = n := by omega
   subst this
   exact ⟨rfl, rfl⟩
theorem markIntS_ok {N : Nat} {v : X} {zs : List Int} {h : H2} {k0 : Int} (o : OwnI N h v zs) (hn0 : zs.length ≤ 9223372036854775807) (hk0 : 0 ≤ k0 ∧ k0 + zs.length ≤ 9223372036854775807) :
  WC2 Tryz.prog W0 22 [v, .raw (.int .i64 k0)] h (fun r h' => r = .raw (.int .i64 (k0 + zs.length)) ∧ OwnI N h' v (marksI k0 zs.length) ∧ hn h' .mk = hn h .mk ∧ ∀ b, blockOf v ≠ some b → h'.get b = h.get b) := by
 obtain ⟨hlen, hcase⟩ := o
 rcases hcase with ⟨rfl, h0⟩ | ⟨b, rfl, hNb, hbn, hb⟩
 ·have : zs = [] := List.eq_nil_of_length_eq_zero h0
  subst this
  refine begins [[0, 1], [0, 1], [0, 1, 5], [0, 1, 5], [0, 1, 5], [0, 1, 5], [1]] Tryz.func22 rfl (rs := [.tmp 4]) rfl rfl ?_
  intro wf
  repeat (first | rw [ko] | rw [kr] | simp -dsimp -implicitDefEqProofs only [go_sem])
  refine lz_keep [0] (fun m e h' => h' = h ∧ look e 5 .mk = .raw (.int .i64 0) ∧ look e 1 .mk = .raw (.int .i64 k0)) 0 ?_ ?_
  ·exact ⟨rfl, zsm, zsm⟩
  ·rintro m e h hks ⟨rfl, e5, e1⟩
   simp -dsimp -implicitDefEqProofs only [go_sem, sQ1] at hks
   repeat (first | rw [ko] | rw [kr] | simp -dsimp -implicitDefEqProofs only [go_sem, sQ1, hks, e5, e1, Int.natCast_zero, Int.lt_irrefl])
   exact ⟨by simp, ⟨by simp, .inl ⟨rfl, rfl⟩⟩, rfl, fun _ _ => rfl⟩
 ·refine begins [[0, 1], [0, 1], [0, 1, 5], [0, 1, 5], [0, 1, 5], [0, 1, 5], [1]] Tryz.func22 rfl (rs := [.tmp 4]) rfl rfl ?_
  intro wf
  repeat (first | rw [ko] | rw [kr] | simp -dsimp -implicitDefEqProofs only [go_sem])
  refine lz_keep [0] (fun m e h' => ∃ (k : Nat) (cs : List X), look e 5 .mk = .raw (.int .i64 k) ∧ look e 1 .mk = .raw (.int .i64 (k0 + k)) ∧ m + k = zs.length ∧ hn h' .mk = hn h .mk ∧ hg h' b .mk = some ⟨1, cs⟩ ∧ (∀ c, c ≠ b → h'.get c = h.get c) ∧ cs.length = zs.length ∧ ∀ j : Nat, j < k → cs[j]? = some (cI (k0 + j))) zs.length ?_ ?_
  ·exact ⟨0, _, by simp -dsimp -implicitDefEqProofs only [go_sem, Int.natCast_zero], by simp -dsimp -implicitDefEqProofs only [go_sem, Int.natCast_zero, Int.add_zero], by omega, rfl, hb, fun _ _ => rfl, by simp, fun j hj => by omega⟩
  ·rintro m e h' hks ⟨k, cs, e5, e1, hk, hnn, hrow, hoth, hl, hpre⟩
   simp -dsimp -implicitDefEqProofs only [go_sem, sQ1] at hks
   repeat (first | rw [ko] | rw [kr] | simp -dsimp -implicitDefEqProofs only [go_sem, sQ1, hks, e5, e1])
   refine gz_dec (fun h2 => ?_) (fun h2 => ?_)
   ·have h3 : k < zs.length := by omega
    have hw2 : wrtL cs k [.raw (.int .i64 (k0 + k))] = some (cs.set k (.raw (.int .i64 (k0 + k)))) := wrt_set (by omega)
    have hi2 : (0 : Int) ≤ (k : Int) ∧ (k : Int) < (zs.length : Int) := by omega
    have hw : IntKind.i64.wrap (k0 + k + 1) = k0 + ((k + 1 : Nat) : Int) := by rw [wrap_i64] <;> omega
    repeat (first | rw [ko] | rw [kr] | simp -dsimp -implicitDefEqProofs only [go_sem, sQ1, hrow, Int.toNat_natCast, hoo, hw2, hi2, wrap_succ h3 hn0, hw])
    refine nx_keep (m - 1) (by omega) zsm ⟨k + 1, cs.set k (.raw (.int .i64 (k0 + k))), zsm, zsm, by omega, hnn, by simp -dsimp -implicitDefEqProofs only [go_sem, hoo], fun c hc => ?_, by simpa using hl, ?_⟩
    ·show (if c = b then _ else h'.get c) = _
     rw [if_neg hc]; exact hoth c hc
    ·intro j hj
     by_cases hji : j = k
     ·subst hji; rw [List.getElem?_set_self (by omega)]; rfl
     ·rw [List.getElem?_set_ne (fun e => hji e.symm)]; exact hpre j (by omega)
   ·repeat (first | rw [ko] | rw [kr] | simp -dsimp -implicitDefEqProofs only [go_sem, sQ1])
    have : k = zs.length := by omega
    subst this
    refine ⟨rfl, ⟨by simp [marks_len], .inr ⟨b, by rw [marks_len], hNb, by omega, ?_⟩⟩, hnn, fun c hc => hoth c fun e => hc (by rw [e]; rfl)⟩
    rw [hrow]
    congr 2
    apply List.ext_getElem?
    intro j
    by_cases hj : j < zs.length
    ·rw [hpre j hj, marksI, List.map_map, List.getElem?_map, List.getElem?_range hj]; rfl
    ·rw [List.getElem?_eq_none (by omega), List.getElem?_eq_none (by simp [marksI]; omega)]
end Go.Bi
end
section
namespace Go.Bi
open Go.Proofs
open Go.Ai (plainS)
variable {W0 : World}
theorem up_up {h : H2} {n m : Nat} : (h.up n).up m = h.up m := rfl
attribute [go_sem] up_up
theorem OTs.head {g : H2} {bs : List Nat} {ys : List X} {t : T} {ts : List T} (o : OTs g bs ys (t :: ts)) : ∃ b1 b2 y ys', bs = b1 ++ b2 ∧ ys = y :: ys' ∧ OT g b1 y t ∧ OTs g b2 ys' ts := by
 cases o with | cons a b => exact ⟨_, _, _, _, rfl, rfl, a, b⟩
theorem OTs.headv {g : H2} {bs : List Nat} {ys : List X} {v : Value} {ts : List T} (o : OTs g bs ys (.v v :: ts)) : ∃ ys', ys = .raw v :: ys' ∧ OTs g bs ys' ts := by
 cases o with | cons a b => cases a; exact ⟨_, rfl, b⟩
theorem OTs.tail0 {g : H2} {bs : List Nat} {ys : List X} (o : OTs g bs ys []) : bs = [] ∧ ys = [] := by cases o; exact ⟨rfl, rfl⟩
theorem szIntS_pw {f : Adr} {zs : List Int} {left : Int} {h : H2} (hn0 : zs.length ≤ 9223372036854775807) (hl : 0 ≤ left ∧ left ≤ 1048576) : PW Tryz.prog W0 44 [.sl f 1 (ints zs), .raw (.int .i64 left)] h (fun y => ∃ k : Int, y = .raw (.int .i64 k) ∧ (0 ≤ k → (zs.length : Int) + k ≤ left)) :=
 PW.scalar ((szIntS_ok hn0 hl).mono fun y g' ⟨⟨k, h1, h2⟩, h3⟩ => ⟨by rw [h3]; exact H2.le.refl _, ⟨_, h1⟩, k, h1, h2⟩)
theorem eqIntS_pw {f f' : Adr} {zs : List Int} {h : H2} (hn0 : zs.length ≤ 9223372036854775807) : PW Tryz.prog W0 16 [.sl f 1 (ints zs), .sl f' 1 (ints zs)] h (fun y => y = .raw (.bool true)) :=
 PW.scalar ((eqIntS_ok hn0).mono fun y g' ⟨h1, h3⟩ => ⟨by rw [h3]; exact H2.le.refl _, ⟨_, h1⟩, h1⟩)
theorem toIntS_new {f : Adr} {zs : List Int} {h : H2} (hn0 : zs.length ≤ 1048576) : NewT Tryz.prog W0 26 [.sl f 1 (ints zs)] h (.l 1 (ints zs)) :=
 (toIntS_ok hn0).mono fun v h' ⟨h1, h2⟩ => ⟨h1, OwnI.tree h2⟩
theorem OT.cell {g : H2} {bs : List Nat} {x : X} {z : Nat} {es : List (List T)} (o : OT g bs x (.l z es)) : cellsX x = some [x] ∧ okX x = true ∧ isTpX x = false := by
 generalize ht : T.l z es = t at o
 cases o with
 | raw => cases ht
 | nil => exact ⟨rfl, rfl, rfl⟩
 | row => exact ⟨rfl, rfl, rfl⟩
theorem Bl.split {N M : Nat} {a b : List Nat} (l : Bl N M (a ++ b)) : Bl N M a ∧ Bl N M b ∧ ∀ x ∈ a, x ∉ b := by
 obtain ⟨h1, h2⟩ := l
 rw [List.nodup_append] at h1
 exact ⟨⟨h1.1, fun x hx => h2 x (by simp [hx])⟩, ⟨h1.2.1, fun x hx => h2 x (by simp [hx])⟩, fun x hx hy => h1.2.2 x hx x hy rfl⟩
theorem OT.block {g : H2} {bs : List Nat} {x : X} {z : Nat} {es : List (List T)} (o : OT g bs x (.l z es)) {b : Nat} (hb : blockOf x = some b) : b ∈ bs := by
 generalize ht : T.l z es = t at o
 cases o with
 | raw => cases ht
 | nil => cases hb
 | row h1 h2 h3 h4 h5 => simp only [blockOf] at hb; cases hb; simp
theorem flat_cells : ∀ {vs : List Value}, (vs.map fun v => [T.v v]).flatten = vs.map .v
 | [] => rfl
 | v :: vs => by simp [flat_cells]
theorem OTs.raws_bs {g : H2} : ∀ {vs : List Value} {bs : List Nat} {xs : List X}, OTs g bs xs (vs.map .v) → bs = []
 | [], _, _, o => (OTs.tail0 o).1
 | v :: vs, _, _, o => by
  obtain ⟨ys, rfl, o'⟩ := OTs.headv (by simpa using o)
  exact OTs.raws_bs o'
theorem markIntS_tree {N : Nat} {bs : List Nat} {v : X} {zs : List Int} {h : H2} {k0 : Int} (o : OT h bs v (.l 1 (ints zs))) (bl : Bl N (hn h .mk) bs) (hk : 0 ≤ k0 ∧ k0 + zs.length ≤ 4611686018427387904) :
  WC2 Tryz.prog W0 22 [v, .raw (.int .i64 k0)] h (fun r h' => ∃ (k1 : Int) (c' : List Int), r = .raw (.int .i64 k1) ∧ k0 ≤ k1 ∧ k1 ≤ k0 + zs.length ∧ OT h' bs v (.l 1 (ints c')) ∧ (∀ f g, PW Tryz.prog W0 24 [.sl f 1 (ints c'), .raw (.int .i64 k0)] g (fun y => y = .raw (.int .i64 k1))) ∧ hn h .mk ≤ hn h' .mk ∧ ∀ b, b < hn h .mk → b ∉ bs → h'.get b = h.get b) := by
 refine (markIntS_ok (o.own bl) (by omega) (by omega)).mono ?_
 rintro r h' ⟨rfl, ow, hn', fr⟩
 refine ⟨_, marksI k0 zs.length, rfl, by omega, by omega, ?_, fun f g => PW.scalar ((heldIntS_ok (by omega) (by omega)).mono fun y g' ⟨h1, h3⟩ => ⟨by rw [h3]; exact H2.le.refl _, ⟨_, h1⟩, h1⟩), by omega, fun b _ hb => fr b fun e => hb (o.block e)⟩
 obtain ⟨bs', o', bl'⟩ := ow.tree
 have : bs' = bs := by
  generalize ht : T.l 1 (ints (marksI k0 zs.length)) = t at o'
  generalize ht2 : T.l 1 (ints zs) = t2 at o
  cases o' with
  | raw => cases ht
  | nil => cases o with | nil => rfl | raw => cases ht2
  | row p1 p2 p3 p4 p5 =>
   cases o with
   | raw => cases ht2
   | row q1 q2 q3 q4 q5 =>
    simp only [T.l.injEq] at ht ht2
    obtain ⟨rfl, rfl⟩ := ht
    obtain ⟨rfl, rfl⟩ := ht2
    rw [ints_T, flat_cells] at p5 q5
    rw [OTs.raws_bs p5, OTs.raws_bs q5]
 rw [← this]; exact o'
end Go.Bi
end
section
set_option maxRecDepth 20000
namespace Go.Bi
open Go.Proofs
open Go.Ai (wrap_i64)
variable {W0 : World}
structure LConfig where
 top : Int
 seed : Int
 new : Int
 stops : List ByteArray
instance : Inhabited LConfig := ⟨⟨default, default, default, default⟩⟩
structure LTable where
 pages : List Int
 count : Int
instance : Inhabited LTable := ⟨⟨default, default⟩⟩
structure LRequest where
 prompt : Int
 tokens : List Int
 config : LConfig
 state : Int
 table : LTable
 status : Int
instance : Inhabited LRequest := ⟨⟨default, default, default, default, default, default⟩⟩
structure LAsk where
 op : Int
 text : ByteArray
 pos : Int
 config : LConfig
 picks : List Int
instance : Inhabited LAsk := ⟨⟨default, default, default, default, default⟩⟩
end Go.Bi
end
section
set_option maxRecDepth 20000
namespace Go.Bi
open Go.Proofs
open Go.Ai (wrap_i64)
variable {W0 : World}
theorem heldIntS_tree {g : H2} {b : List Nat} {x : X} {zs : List Int} {k k' : Int} (o : OT g b x (.l 1 (ints zs))) (hd : ∀ f g, PW Tryz.prog W0 24 [.sl f 1 (ints zs), .raw (.int .i64 k)] g (fun y => y = .raw (.int .i64 k'))) : PW Tryz.prog W0 24 [x, .raw (.int .i64 k)] g (fun y => y = .raw (.int .i64 k')) := by
 obtain ⟨f, hf⟩ := o.lent
 exact PW.lend (.cons hf (.cons lent_raw .nil)) (hd f _) (fun y h => by subst h; exact .raw)
end Go.Bi
end
section
set_option maxRecDepth 20000
namespace Go.Bi
open Go.Proofs
open Go.Ai (wrap_i64 Heap)
variable {W0 : World} {P : Program}
def slB (f : Adr) (z : Nat) (es : List (List T)) (hh l : Option Nat) : Option X := match hh, l with
 | some hh, some l => some (.sl (subA f l (hh - l) z) z ((es.drop l).take (hh - l)))
 | _, _ => none
def bndL (hh : Option Nat) (lo : Option X) : Option Nat := match hh with | some hh => boundX hh lo 0 | none => none
theorem slB_some {f : Adr} {z : Nat} {es : List (List T)} {hh l : Nat} : slB f z es (some hh) (some l) = some (.sl (subA f l (hh - l) z) z ((es.drop l).take (hh - l))) := rfl
theorem bndL_some {hh : Nat} {lo : Option X} : bndL (some hh) lo = boundX hh lo 0 := rfl
theorem slice_sl {t z : Nat} {h : H2} {f : Adr} {es : List (List T)} {lo hi : Option X} (h1 : (Go.Ai.eltZ (Go.Ai.elt? P t) == z) = true) (he : (Go.Ai.elt? P t).isSome = true) :
  slicez P h t (.sl f z es) lo hi none .mk = slB f z es (boundX es.length hi es.length) (bndL (boundX es.length hi es.length) lo) := by
 simp only [slicez, sliceX]
 cases hq : Go.Ai.elt? P t with
 | none => rw [hq] at he; cases he
 | some q =>
  obtain ⟨u, s, b⟩ := q
  rw [hq] at h1
  simp only [Go.Ai.eltZ, beq_iff_eq] at h1
  simp only [Option.isSome_none, Bool.false_eq_true, if_false, if_pos h1, slB, bndL]
  cases boundX es.length hi es.length with
  | none => rfl
  | some hh => dsimp only; cases boundX hh lo 0 <;> rfl
theorem bo_none {n d : Nat} : boundX n none d = some d := rfl
theorem bo_int {n d : Nat} {k : IntKind} {i : Int} (h0 : 0 ≤ i) (h1 : i ≤ n) : boundX n (some (.raw (.int k i))) d = some i.toNat := by
 simp only [boundX]; rw [if_pos ⟨h0, h1⟩]
theorem ints_drop {zs : List Int} {n : Nat} : (ints zs).drop n = ints (zs.drop n) := by simp [ints]
theorem ints_take {zs : List Int} {n : Nat} : (ints zs).take n = ints (zs.take n) := by simp [ints]
attribute [go_sem] slB_some bndL_some slice_sl bo_none bo_int ints_drop ints_take
theorem WC2.asm {f : FuncId} {xs : List X} {g : H2} {K : X → H2 → Prop} (c : ∀ h, S g h → (∀ x ∈ xs, Ok h g x) → WC2 P W0 f xs g K) : WC2 P W0 f xs g K := fun h s o => c h s o h s o
theorem nil_of {h : Heap} {g : H2} {f : Adr} {z : Nat} {es : List (List T)} (o : Ok h g (.sl f z es)) (hn : nilS (f []) = true) : es = [] := by
 cases o with
 | sl r =>
  cases r with
  | o h1 => rfl
  | l a c h1 h2 h3 h4 =>
   rcases h3 with ⟨_, h5⟩ | ⟨b, off, w, k, cs, rfl, _⟩
   ·exact h5
   ·rw [h1] at hn; cases hn
theorem flat_ints {f : Adr} : ∀ {zs : List Int} {i : Nat}, flatX f i (ints zs) = zs.map cI
 | [], _ => rfl
 | z :: zs, i => by
  have := flat_ints (f := f) (zs := zs) (i := i + 1)
  simp only [ints, List.map_cons, flatX, eI, mkL, mkC, List.cons_append, List.nil_append, cI] at *
  rw [this]
theorem src_ints {g : H2} {f : Adr} {zs : List Int} : srcX g 1 (.sl f 1 (ints zs)) = some (zs.length, zs.map cI) := by
 simp only [srcX, if_true, flat_ints, ints_len]
theorem ok_ints {zs : List Int} : (zs.map cI).all okX = true := by simp [cI, okX]
theorem append_ints {D : Nat → Option (List Nat)} {g : H2} {K : KT} {t u U y N : Nat} {xs zs : List Int} {x : X} {f : Adr} (he : Go.Ai.elt? P t = some (U, 1, y)) (hz : Go.Ai.zr? P U = some [.int .i64 0]) (hu : Go.Ai.cls? P u = some .sl)
  (hx : OwnI N g x xs) (hN0 : N ≤ hn g .mk) (hn0 : (xs.length + zs.length) * (y + 1) ≤ Go.Ai.most)
  (hk : ∀ v' g', OwnI N g' v' (xs ++ zs) → hn g .mk ≤ hn g' .mk → (∀ g0 : H2, hn g0 .mk ≤ N → g0.le g → g0.le g') → (∀ b, b < hn g .mk → blockOf x ≠ some b → hg g' b .mk = hg g b .mk) → kz K v' g' .mk) :
  az (biz P g .append [t, u] [x, .sl f 1 (ints zs)] .mk) K .mk := by
 refine append_own (z := 0) (N := N) he hz rfl hu hx hN0 src_ints (by simp) ok_ints hn0 ?_
 intro v' g' o
 refine hk v' g' ?_
 unfold OwnI
 rw [List.map_append, List.length_append]
 exact o
theorem cloneI_ok {f : Adr} {zs : List Int} {g : H2} (hn0 : zs.length ≤ 1048576) : PI Tryz.prog W0 132 [.sl f 1 (ints zs)] g zs := by
 refine WC2.asm fun hp s o => ?_
 have hnil := nil_of (o _ List.mem_cons_self)
 refine begins [[0], [0], [], [0]] Tryz.func132 rfl (rs := [.tmp 2]) rfl rfl ?_
 intro wf
 repeat (first | rw [ko] | rw [kr] | simp -dsimp -implicitDefEqProofs only [go_sem])
 refine gz_intro (fun h1 => ?_) (fun h1 => ?_)
 ·have : zs = [] := by have := hnil h1; simpa [ints] using this
  subst this
  repeat (first | rw [ko] | rw [kr] | simp -dsimp -implicitDefEqProofs only [go_sem])
  exact ⟨H2.le.refl _, Own.nil⟩
 ·repeat (first | rw [ko] | rw [kr] | simp -dsimp -implicitDefEqProofs only [go_sem, sQ1, sQ3])
  refine append_ints (D := fun _ => none) (N := hn g .mk) (xs := []) Go.Ai.ty_el25 Go.Ai.ty_zr3 Go.Ai.ty_cl25 (Own.new (Nat.le_refl _) rfl) (by simp only [hn_push]; omega) (by simp; have : Go.Ai.most = 1099511627776 := rfl; omega) ?_
  intro v' g' o' hn' hle _
  repeat (first | rw [ko] | rw [kr] | simp -dsimp -implicitDefEqProofs only [go_sem])
  exact ⟨hle g (Nat.le_refl _) (H2.le_push1 g _), by simpa using o'⟩
end Go.Bi
end
section
set_option maxRecDepth 20000
namespace Go.Bi
open Go.Proofs
open Go.Ai (wrap_i64 Heap)
variable {W0 : World} {P : Program}
theorem OT.israw {g : H2} {bs : List Nat} {x : X} {t : T} (o : OT g bs x t) : ∃ v, x = .raw v := by cases o <;> exact ⟨_, rfl⟩
theorem OTs.israw {g : H2} : ∀ {bs : List Nat} {xs : List X} {ts : List T}, OTs g bs xs ts → ∀ x ∈ xs, ∃ v, x = .raw v
 | _, _, _, .nil, x, hx => by cases hx
 | _, _, _, .cons a b, x, hx => by
  rcases List.mem_cons.1 hx with rfl | hx
  ·exact a.israw
  ·exact b.israw x hx
mutual
theorem OT.rows {g : H2} : ∀ {bs : List Nat} {x : X} {t : T}, OT g bs x t → ∀ b ∈ bs, ∃ k, g.get b = some k ∧ ∀ y ∈ k.cs, ∃ v, y = X.raw v
 | _, _, _, .raw h, b, hb => by cases hb
 | _, _, _, .nil, b, hb => by cases hb
 | _, _, _, .row h1 h2 h3 h4 h5, b, hb => by
  rcases List.mem_cons.1 hb with rfl | hb
  ·exact ⟨_, h1, h5.israw⟩
  ·exact h5.rows b hb
theorem OTs.rows {g : H2} : ∀ {bs : List Nat} {xs : List X} {ts : List T}, OTs g bs xs ts → ∀ b ∈ bs, ∃ k, g.get b = some k ∧ ∀ y ∈ k.cs, ∃ v, y = X.raw v
 | _, _, _, .nil, b, hb => by cases hb
 | _, _, _, .cons h1 h2, b, hb => by
  rcases List.mem_append.1 hb with hb | hb
  ·exact h1.rows b hb
  ·exact h2.rows b hb
end
theorem WC2.lendTree {g : H2} {f : FuncId} {xs ys : List X} {R : X → H2 → List Nat → Prop} (hl : Lents g xs ys)
    (c : WC2 P W0 f ys g.bare fun x g' => g.bare.le g' ∧ ∃ bs, R x g' bs ∧ Bl (hn g .mk) (hn g' .mk) bs)
    (hfr : ∀ x g' g2 bs, R x g' bs → (∀ b ∈ bs, g2.get b = g'.get b) → R x g2 bs)
    (hrow : ∀ x g' bs, R x g' bs → ∀ b ∈ bs, ∃ k, g'.get b = some k ∧ ∀ y ∈ k.cs, ∃ v, y = X.raw v)
    (hok : ∀ x g' bs, R x g' bs → ∀ h g2, Ok h g2 x) :
    WC2 P W0 f xs g fun x g' => g.le g' ∧ ∃ bs, R x g' bs ∧ Bl (hn g .mk) (hn g' .mk) bs := by
  intro h s o
  rw [← hl.er]
  refine (c h s.bare (hl.ok s o)).mono ?_
  rintro v h' ⟨y, g', rfl, s', x', o', le, bs, r, bl⟩
  have hn1 : hn g .mk = h.n := s.n
  have hn2 : hn g' .mk = h'.n := s'.n
  have hbn : ∀ c, c < h.n → c ∉ bs := fun c hc hb => by have := (bl.2 c hb).1; omega
  let g2 : H2 := ⟨h'.n, fun b => if b ∈ bs then g'.get b else g.get b⟩
  have hx2 : Ext g h g2 h' := ⟨x'.n, fun c hc _ => x'.keep c hc rfl, fun c hc hg => by
    show (if c ∈ bs then g'.get c else g.get c) = none
    rw [if_neg (hbn c hc)]; exact hg⟩
  refine ⟨_, g2, rfl, ⟨rfl, fun c k hk => ?_⟩, hx2, hok _ _ _ r _ _, ⟨?_, fun c hc => ?_⟩, bs, hfr _ _ _ _ r fun b hb => ?_, bl.wide (Nat.le_refl _) (Nat.le_of_eq hn2)⟩
  · by_cases hb : c ∈ bs
    · have hk' : g'.get c = some k := by
        have : (if c ∈ bs then g'.get c else g.get c) = some k := hk
        rwa [if_pos hb] at this
      obtain ⟨k2, e2, hr⟩ := hrow _ _ _ r c hb
      rw [e2] at hk'
      cases hk'
      obtain ⟨q1, q2, q3⟩ := s'.row c _ e2
      exact ⟨q1, q2, fun x hx => by obtain ⟨v, rfl⟩ := hr x hx; exact .raw⟩
    · have hk' : g.get c = some k := by
        have : (if c ∈ bs then g'.get c else g.get c) = some k := hk
        rwa [if_neg hb] at this
      obtain ⟨q1, q2, q3⟩ := s.row c k hk'
      exact ⟨Nat.lt_of_lt_of_le q1 x'.n, by rw [x'.keep c q1 rfl]; exact q2, fun y hy => (q3 y hy).mono hx2⟩
  · have := x'.n
    show hn g .mk ≤ h'.n
    omega
  · show (if c ∈ bs then g'.get c else g.get c) = g.get c
    rw [if_neg (hbn c (by omega))]
  · show (if b ∈ bs then g'.get b else g.get b) = g'.get b
    rw [if_pos hb]
end Go.Bi
end
section
namespace Go.Bi
open Go.Ai (plainS)
theorem getD_mem {α : Type} [Inhabited α] {l : List α} {i : Nat} (h : i < l.length) : l.getD i default ∈ l := by
 rw [List.getD_eq_getElem?_getD, List.getElem?_eq_getElem h]; exact List.getElem_mem h
theorem take_next {α : Type} [Inhabited α] {l : List α} {i : Nat} (h : i < l.length) : l.take (i + 1) = l.take i ++ [l.getD i default] := by
 rw [List.take_succ_eq_append_getElem h, List.getD_eq_getElem?_getD, List.getElem?_eq_getElem h]; rfl
def sumN {α : Type} (f : α → Nat) : List α → Nat
 | [] => 0
 | x :: l => f x + sumN f l
theorem sumN_append {α : Type} {f : α → Nat} : ∀ {l m : List α}, sumN f (l ++ m) = sumN f l + sumN f m
 | [], _ => by simp [sumN]
 | x :: l, m => by simp only [List.cons_append, sumN, sumN_append]; omega
theorem sumN_take {α : Type} [Inhabited α] {f : α → Nat} {l : List α} {i : Nat} (h : i < l.length) : sumN f (l.take (i + 1)) = sumN f (l.take i) + f (l.getD i default) := by
 rw [take_next h, sumN_append]; simp [sumN]
theorem sumN_mem {α : Type} {f : α → Nat} {x : α} : ∀ {l : List α}, x ∈ l → f x ≤ sumN f l
 | y :: l, h => by
  rcases List.mem_cons.1 h with rfl | h
  ·simp only [sumN]; omega
  ·have := sumN_mem (f := f) h; simp only [sumN]; omega
theorem up_self {h : H2} : h = h.up (hn h .mk) := rfl
theorem OTs.append {g : H2} : ∀ {bs bs' : List Nat} {xs ys : List X} {ts us : List T}, OTs g bs xs ts → OTs g bs' ys us → OTs g (bs ++ bs') (xs ++ ys) (ts ++ us)
 | _, _, _, _, _, _, .nil, h => by simpa using h
 | _, _, _, _, _, _, .cons a b, h => by
  have := OTs.cons a (OTs.append b h)
  simpa only [List.append_assoc, List.cons_append] using this
theorem OT.okx {g : H2} {bs : List Nat} {x : X} {t : T} (o : OT g bs x t) : okX x = true ∧ cellsX x = some [x] := by
 cases o with
 | raw hp => rename_i v; cases v <;> first | exact ⟨rfl, rfl⟩ | simp [plainS] at hp
 | nil => exact ⟨rfl, rfl⟩
 | row => exact ⟨rfl, rfl⟩
theorem OTs.okx {g : H2} : ∀ {bs : List Nat} {xs : List X} {ts : List T}, OTs g bs xs ts → xs.all okX = true
 | _, _, _, .nil => rfl
 | _, _, _, .cons a b => by simp only [List.all_cons, a.okx.1, b.okx, Bool.and_self]
theorem OTs.one {g : H2} {bs : List Nat} {x : X} {t : T} (o : OT g bs x t) : OTs g bs [x] [t] := by
 have := OTs.cons o OTs.nil
 simpa using this
theorem flat_next {α : Type} [Inhabited α] {E : α → List T} {l : List α} {i : Nat} (h : i < l.length) : ((l.take (i + 1)).map E).flatten = ((l.take i).map E).flatten ++ E (l.getD i default) := by
 rw [take_next h]; simp
theorem wrt_next {cs ys : List X} {k n z : Nat} (hc : cs.length = n * z) (hk : k < n) (hy : ys.length = z) : wrtL cs (k * z) ys = some (cs.take (k * z) ++ ys ++ cs.drop (k * z + z)) ∧ (cs.take (k * z) ++ ys ++ cs.drop (k * z + z)).length = n * z ∧ (cs.take (k * z) ++ ys ++ cs.drop (k * z + z)).take ((k + 1) * z) = cs.take (k * z) ++ ys := by
 have h1 : k * z + z ≤ n * z := by rw [← Nat.succ_mul]; exact Nat.mul_le_mul_right z hk
 refine ⟨?_, ?_, ?_⟩
 ·simp only [wrtL, hy]; rw [if_pos (by omega)]
 ·simp only [List.length_append, List.length_take, List.length_drop, hy]; omega
 ·rw [List.take_append_of_le_length (by simp only [List.length_append, List.length_take, hy, Nat.succ_mul]; omega)]
  rw [List.take_of_length_le (by simp only [List.length_append, List.length_take, hy, Nat.succ_mul]; omega)]
theorem OT.full {g : H2} {b z : Nat} {bs : List Nat} {cs : List X} {α : Type} {E : α → List T} {l : List α} (hE : ∀ a, (E a).length = z) (hb : hg g b .mk = some ⟨z, cs⟩) (hc : cs.length = l.length * z) (o : OTs g bs (cs.take (l.length * z)) ((l.take l.length).map E).flatten) (bl : Bl (b + 1) (hn g .mk) bs) (hlt : b < hn g .mk) :
  OT g (b :: bs) (.raw (.slice (some ⟨b, 0, none⟩) l.length l.length)) (.l z (l.map E)) ∧ Bl b (hn g .mk) (b :: bs) := by
 refine ⟨.row hb hc (by simp) (fun e he => ?_) ?_, ?_⟩
 ·obtain ⟨a, _, rfl⟩ := List.mem_map.1 he; exact hE a
 ·rw [List.take_of_length_le (by omega), List.take_of_length_le (Nat.le_refl _)] at o; exact o
 ·refine ⟨List.nodup_cons.2 ⟨fun h => by have := (bl.2 b h).1; omega, bl.1⟩, fun x hx => ?_⟩
  rcases List.mem_cons.1 hx with rfl | hx
  ·omega
  ·have := bl.2 x hx; omega
end Go.Bi
end
section
set_option maxRecDepth 20000
namespace Go.Bi
open Go.Proofs
open Go.Ai (wrap_i64)
variable {W0 : World}
def eIntS (zs : List Int) : List T := [.l 1 (ints zs)]
theorem eIntS_def {zs : List Int} : eIntS zs = [.l 1 (ints zs)] := rfl
attribute [go_sem] eIntS_def
def szIntS (zs : List Int) : Nat := zs.length
def fitIntS (zs : List Int) : Prop := zs.length ≤ 9223372036854775807
def rIntSS (zs : List (List Int)) : List (List T) := zs.map eIntS
theorem rIntSS_len {zs : List (List Int)} : (rIntSS zs).length = zs.length := by simp [rIntSS]
theorem rIntSS_el {zs : List (List Int)} {i : Nat} (hi : i < zs.length) : el (rIntSS zs) i = eIntS (zs.getD i default) := el_map hi
attribute [go_sem] rIntSS_len rIntSS_el
def szIntSS (zs : List (List Int)) : Nat := zs.length + sumN szIntS zs
def fitIntSS (zs : List (List Int)) : Prop := zs.length ≤ 9223372036854775807 ∧ ∀ x ∈ zs, fitIntS x
theorem szIntSS_pw {f : Adr} {zs : List (List Int)} {left : Int} {h : H2} (hf : fitIntSS zs) (hl : 0 ≤ left ∧ left ≤ 1048576) : PW Tryz.prog W0 42 [.sl f 1 (rIntSS zs), .raw (.int .i64 left)] h (fun y => ∃ k : Int, y = .raw (.int .i64 k) ∧ (0 ≤ k → (szIntSS zs : Int) + k ≤ left)) := by
 obtain ⟨hf1, hf2⟩ := hf
 unfold szIntSS
 have hw : IntKind.i64.wrap (left - zs.length) = left - zs.length := by rw [wrap_i64] <;> omega
 refine PW.scalar ?_
 refine begins [[0, 1], [0, 1], [0, 1], [], [0, 1], [0, 1, 5], [0, 1, 5], [0, 1, 5], [0, 1, 5], [], [1]] Tryz.func42 rfl (rs := [.tmp 4]) rfl rfl ?_
 intro wf
 repeat (first | rw [ko] | rw [kr] | simp -dsimp -implicitDefEqProofs only [go_sem, sQ1, hw])
 refine gz_dec (fun h1 => ?_) (fun h1 => ?_)
 ·repeat (first | rw [ko] | rw [kr] | simp -dsimp -implicitDefEqProofs only [go_sem])
  exact ⟨H2.le.refl _, ⟨_, rfl⟩, _, rfl, fun hh => by omega⟩
 ·repeat (first | rw [ko] | rw [kr] | simp -dsimp -implicitDefEqProofs only [go_sem, sQ1])
  refine lz_keep [0] (fun m e h' => ∃ (k n : Nat) (x : Int), h' = h.up n ∧ hn h .mk ≤ n ∧ look e 5 .mk = .raw (.int .i64 k) ∧ look e 1 .mk = .raw (.int .i64 x) ∧ 0 ≤ x ∧ (zs.length : Int) + sumN szIntS (zs.take k) + x ≤ left ∧ m + k = zs.length) zs.length ?_ ?_
  ·exact ⟨0, hn h .mk, left - zs.length, up_self, Nat.le_refl _, zsm, zsm, by omega, by simp [sumN]; omega, by omega⟩
  ·rintro m e h' hks ⟨k, n, x, rfl, hnn, e5, e1, hx, hsum, hk⟩
   simp -dsimp -implicitDefEqProofs only [go_sem, sQ1] at hks
   by_cases h2 : (k : Int) < (zs.length : Int)
   ·have h3 : k < zs.length := by omega
    have hst : sumN szIntS (zs.take (k + 1)) = sumN szIntS (zs.take k) + (zs.getD k default).length := sumN_take (f := szIntS) h3
    repeat (first | rw [ko] | rw [kr] | simp -dsimp -implicitDefEqProofs only [go_sem, sQ1, hks, e5, e1, h2, h3])
    refine pw_intro (szIntS_pw (hf2 _ (getD_mem h3)) ⟨by omega, by omega⟩) ?_
    rintro _ n2 hn2 ⟨x2, rfl, hx2⟩
    simp only [hn_up] at hn2
    repeat (first | rw [ko] | rw [kr] | simp -dsimp -implicitDefEqProofs only [go_sem, sQ1])
    refine gz_dec (fun h4 => ?_) (fun h4 => ?_)
    ·repeat (first | rw [ko] | rw [kr] | simp -dsimp -implicitDefEqProofs only [go_sem])
     exact ⟨(by first | exact le_up (H2.le.refl _) (by omega) | exact le_up (le_up (H2.le.refl _) hnn) (by rw [hn_up]; omega)), ⟨_, rfl⟩, _, rfl, fun hh => by omega⟩
    ·repeat (first | rw [ko] | rw [kr] | simp -dsimp -implicitDefEqProofs only [go_sem, sQ1, wrap_succ h3 hf1])
     exact nx_keep (m - 1) (by omega) zsm ⟨k + 1, n2, x2, up_up, by omega, zsm, zsm, by omega, by have := hx2 (by omega); omega, by omega⟩
   ·repeat (first | rw [ko] | rw [kr] | simp -dsimp -implicitDefEqProofs only [go_sem, sQ1, hks, e5, e1, h2])
    refine ⟨le_up (H2.le.refl _) hnn, ⟨_, rfl⟩, x, rfl, fun _ => ?_⟩
    rw [List.take_of_length_le (by omega)] at hsum
    omega
theorem eqIntSS_pw {f f' : Adr} {zs : List (List Int)} {h : H2} (hf : fitIntSS zs) : PW Tryz.prog W0 67 [.sl f 1 (rIntSS zs), .sl f' 1 (rIntSS zs)] h (fun y => y = .raw (.bool true)) := by
 obtain ⟨hf1, hf2⟩ := hf
 refine PW.scalar ?_
 refine begins [[0, 1], [0, 1], [], [0, 1], [0, 1, 5], [0, 1, 5], [0, 1, 5], [], []] Tryz.func67 rfl (rs := [.tmp 4]) rfl rfl ?_
 intro wf
 repeat (first | rw [ko] | rw [kr] | simp -dsimp -implicitDefEqProofs only [go_sem, sQ1])
 refine lz_keep [0, 1] (fun m e h' => ∃ (k n : Nat), h' = h.up n ∧ hn h .mk ≤ n ∧ look e 5 .mk = .raw (.int .i64 k) ∧ m + k = zs.length) zs.length ?_ ?_
 ·exact ⟨0, hn h .mk, up_self, Nat.le_refl _, zsm, by omega⟩
 ·rintro m e h' hks ⟨k, n, rfl, hnn, e5, hk⟩
  simp -dsimp -implicitDefEqProofs only [go_sem, sQ1] at hks
  by_cases h2 : (k : Int) < (zs.length : Int)
  ·have h3 : k < zs.length := by omega
   repeat (first | rw [ko] | rw [kr] | simp -dsimp -implicitDefEqProofs only [go_sem, sQ1, hks, e5, h2])
   refine dq_intro [(0, []), (1, []), (2, []), (3, []), (4, []), (5, []), (6, []), (7, []), (8, []), (9, [])] (by kernel_rfl) ?_
   repeat (first | rw [ko] | rw [kr] | simp -dsimp -implicitDefEqProofs only [go_sem, sQ1, h3])
   refine pw_intro (eqIntS_pw (hf2 _ (getD_mem h3))) ?_
   rintro _ n2 hn2 rfl
   simp only [hn_up] at hn2
   repeat (first | rw [ko] | rw [kr] | simp -dsimp -implicitDefEqProofs only [go_sem, sQ1, wrap_succ h3 hf1])
   exact nx_keep (m - 1) (by omega) zsm ⟨k + 1, n2, up_up, by omega, zsm, by omega⟩
  ·repeat (first | rw [ko] | rw [kr] | simp -dsimp -implicitDefEqProofs only [go_sem, sQ1, hks, e5, h2])
   exact ⟨le_up (H2.le.refl _) hnn, ⟨_, rfl⟩, rfl⟩
theorem toIntSS_new {f : Adr} {zs : List (List Int)} {h : H2} (hs : szIntSS zs ≤ 1048576) : NewT Tryz.prog W0 54 [.sl f 1 (rIntSS zs)] h (.l 1 (rIntSS zs)) := by
 unfold szIntSS at hs
 have hE : ∀ a, (eIntS a).length = 1 := fun a => rfl
 refine begins [[0], [0], [0, 3], [0, 3, 4], [0, 3, 4], [0, 3, 4], [3]] Tryz.func54 rfl (rs := [.tmp 2]) rfl rfl ?_
 intro wf
 repeat (first | rw [ko] | rw [kr] | simp -dsimp -implicitDefEqProofs only [go_sem])
 refine make_intro Ai.ty_el23 Ai.ty_zr25 (by decide) ⟨by omega, by simp only [Int.toNat_natCast]; have : Ai.most = 1099511627776 := rfl; omega⟩ ?_
 repeat (first | rw [ko] | rw [kr] | simp -dsimp -implicitDefEqProofs only [go_sem, sQ1])
 refine lz_keep [0, 3] (fun m e h' => ∃ (k : Nat) (cs : List X) (bs : List Nat), look e 4 .mk = .raw (.int .i64 k) ∧ m + k = zs.length ∧ hg h' (hn h .mk) .mk = some ⟨1, cs⟩ ∧ cs.length = zs.length * 1 ∧ OTs h' bs (cs.take (k * 1)) (((zs.take k).map eIntS).flatten) ∧ Bl (hn h .mk + 1) (hn h' .mk) bs ∧ h.le h' ∧ hn h .mk < hn h' .mk) zs.length ?_ ?_
 ·exact ⟨0, _, [], zsm, by omega, (by rw [hg_push, hoo]; rfl), by simp [rep_len], by simpa using OTs.nil, Bl.nil, le_push (H2.le.refl _), by rw [hn_push]; omega⟩
 ·rintro m e h' hks ⟨k, cs, bs, e4, hk, hrow, hcs, ho, hbl, hle, hlt⟩
  simp -dsimp -implicitDefEqProofs only [go_sem] at hks
  by_cases h2 : (k : Int) < (zs.length : Int)
  ·have h3 : k < zs.length := by omega
   have hsm : (zs.getD k default).length ≤ sumN szIntS zs := sumN_mem (f := szIntS) (getD_mem h3)
   repeat (first | rw [ko] | rw [kr] | simp -dsimp -implicitDefEqProofs only [go_sem, sQ1, hks, e4, h2, h3])
   refine wz_intro (toIntS_new (by omega)) ?_
   rintro y g2 ⟨l2, b2, o1, bl2⟩
   have hy1 := OT.okx o1
   have o2 := OTs.one o1
   have nn2 := l2.1
   have hyl : ([y]).length = 1 := (OTs.len o2).trans (hE _)
   have hyo := OTs.okx o2
   obtain ⟨w1, w2, w3⟩ := wrt_next hcs h3 hyl
   have row2 := (l2.2 (hn h .mk) hlt).trans hrow
   have hi2 : (0 : Int) ≤ (k : Int) ∧ (k : Int) < (zs.length : Int) := by omega
   rw [Nat.mul_one] at w1
   repeat (first | rw [ko] | rw [kr] | simp -dsimp -implicitDefEqProofs only [go_sem, sQ1, row2, hi2, hyl, hyo, w1, hy1, wrap_succ h3 (by omega)])
   have hset : ∀ {b : Nat} {kk : OB}, b ≠ hn h .mk → (g2.set (hn h .mk) kk).get b = g2.get b := fun hb => by simp only [H2.set]; rw [if_neg hb]
   refine nx_keep (m - 1) (by omega) zsm ⟨k + 1, _, bs ++ b2, zsm, by omega, (by rw [hg_set, hoo]; rfl), (by rw [← Nat.mul_one k]; exact w2), ?_, ?_, le_set (hle.trans l2) (Nat.le_refl _), by simp -dsimp -implicitDefEqProofs only [go_sem] <;> omega⟩
   ·rw [show cs.take k = cs.take (k * 1) by rw [Nat.mul_one], show cs.drop (k + 1) = cs.drop (k * 1 + 1) by rw [Nat.mul_one]]; rw [w3, flat_next h3]
    refine OTs.append ((OTs.keep ho l2 hbl).frame fun b hb => hset (by have := (hbl.2 b hb).1; omega)) (o2.frame fun b hb => hset (by have := (bl2.2 b hb).1; omega))
   ·rw [hn_set]
    exact hbl.append bl2 (by omega) nn2
  ·repeat (first | rw [ko] | rw [kr] | simp -dsimp -implicitDefEqProofs only [go_sem, sQ1, hks, e4, h2])
   have : k = zs.length := by omega
   subst this
   obtain ⟨q1, q2⟩ := OT.full hE hrow hcs ho hbl hlt
   exact ⟨hle, _, q1, q2⟩
structure LMerge where
 a : Int
 b : Int
instance : Inhabited LMerge := ⟨⟨default, default⟩⟩
def eMerge (c : LMerge) : List T := [.v (.int .i64 c.a), .v (.int .i64 c.b)]
def xMerge (F : Nat → Adr) (c : LMerge) : List X := [.raw (.int .i64 c.a), .raw (.int .i64 c.b)]
theorem eMerge_def {c : LMerge} : eMerge c = [.v (.int .i64 c.a), .v (.int .i64 c.b)] := rfl
theorem xMerge_def {F : Nat → Adr} {c : LMerge} : xMerge F c = [.raw (.int .i64 c.a), .raw (.int .i64 c.b)] := rfl
def szMerge (c : LMerge) : Nat := 0
def fitMerge (c : LMerge) : Prop := True
attribute [go_sem] eMerge_def xMerge_def
theorem outMerge {g : H2} {c : LMerge} : OTs g [] [.raw (.int .i64 c.a), .raw (.int .i64 c.b)] (eMerge c) := by
 have := (OTs.cons (OT.raw (v := .int .i64 c.a) rfl) (OTs.cons (OT.raw (v := .int .i64 c.b) rfl) (OTs.nil)) : OTs g _ _ _)
 simpa only [eMerge, List.append_nil, List.nil_append] using this
theorem eqMerge_ok {F F' : Nat → Adr} {c : LMerge} {h : H2} (hf : fitMerge c) : PW Tryz.prog W0 139 [.st (xMerge F c), .st (xMerge F' c)] h (fun y => y = .raw (.bool true)) := by
 unfold fitMerge at hf
 refine PW.scalar ?_
 refine begins [[0, 1], [2, 3], [], [2, 3], [], []] Tryz.func139 rfl (rs := [.tmp 4]) rfl rfl ?_
 intro wf
 repeat (first | rw [ko] | rw [kr] | simp -dsimp -implicitDefEqProofs only [go_sem, sQ1])
 exact ⟨zale, ⟨_, rfl⟩, rfl⟩
theorem toMerge_ok {F : Nat → Adr} {c : LMerge} {h : H2} (hs : szMerge c ≤ 1048576) : NewS Tryz.prog W0 114 [.st (xMerge F c)] h (eMerge c) := by
 refine begins [[0], [1, 2], [1, 2, 3], [1, 2, 3], [2, 3]] Tryz.func114 rfl (rs := [.cell 2 165]) rfl rfl ?_
 intro wf
 repeat (first | rw [ko] | rw [kr] | simp -dsimp -implicitDefEqProofs only [go_sem, sQ1, sQ2, hoo])
 exact ⟨zale, _, [], rfl, outMerge (c := c), Bl.nil⟩
def rMergeS (zs : List LMerge) : List (List T) := zs.map eMerge
theorem rMergeS_len {zs : List LMerge} : (rMergeS zs).length = zs.length := by simp [rMergeS]
theorem rMergeS_el {zs : List LMerge} {i : Nat} (hi : i < zs.length) : el (rMergeS zs) i = eMerge (zs.getD i default) := el_map hi
attribute [go_sem] rMergeS_len rMergeS_el
def szMergeS (zs : List LMerge) : Nat := zs.length + sumN szMerge zs
def fitMergeS (zs : List LMerge) : Prop := zs.length ≤ 9223372036854775807 ∧ ∀ x ∈ zs, fitMerge x
theorem szMergeS_pw {f : Adr} {zs : List LMerge} {left : Int} {h : H2} (hf : fitMergeS zs) (hl : 0 ≤ left ∧ left ≤ 1048576) : PW Tryz.prog W0 41 [.sl f 2 (rMergeS zs), .raw (.int .i64 left)] h (fun y => ∃ k : Int, y = .raw (.int .i64 k) ∧ (0 ≤ k → (szMergeS zs : Int) + k ≤ left)) := by
 obtain ⟨hf1, hf2⟩ := hf
 unfold szMergeS
 have hw : IntKind.i64.wrap (left - zs.length) = left - zs.length := by rw [wrap_i64] <;> omega
 refine PW.scalar ?_
 refine begins [[0, 1], [0, 1], [1], [], [1]] Tryz.func41 rfl (rs := [.tmp 4]) rfl rfl ?_
 intro wf
 repeat (first | rw [ko] | rw [kr] | simp -dsimp -implicitDefEqProofs only [go_sem, sQ1, hw])
 refine gz_dec (fun h1 => ?_) (fun h1 => ?_)
 ·repeat (first | rw [ko] | rw [kr] | simp -dsimp -implicitDefEqProofs only [go_sem])
  exact ⟨H2.le.refl _, ⟨_, rfl⟩, _, rfl, fun hh => by omega⟩
 ·repeat (first | rw [ko] | rw [kr] | simp -dsimp -implicitDefEqProofs only [go_sem, sQ1])
  have h0 : ∀ l : List LMerge, sumN szMerge l = 0 := fun l => by
   induction l with
   | nil => rfl
   | cons a l ih => simp only [sumN, szMerge, ih]
  exact ⟨H2.le.refl _, ⟨_, rfl⟩, _, rfl, fun hh => by rw [h0]; omega⟩
theorem eqMergeS_pw {f f' : Adr} {zs : List LMerge} {h : H2} (hf : fitMergeS zs) : PW Tryz.prog W0 66 [.sl f 2 (rMergeS zs), .sl f' 2 (rMergeS zs)] h (fun y => y = .raw (.bool true)) := by
 obtain ⟨hf1, hf2⟩ := hf
 refine PW.scalar ?_
 refine begins [[0, 1], [0, 1], [], [0, 1], [0, 1, 5], [0, 1, 5], [0, 1, 5], [], []] Tryz.func66 rfl (rs := [.tmp 4]) rfl rfl ?_
 intro wf
 repeat (first | rw [ko] | rw [kr] | simp -dsimp -implicitDefEqProofs only [go_sem, sQ1])
 refine lz_keep [0, 1] (fun m e h' => ∃ (k n : Nat), h' = h.up n ∧ hn h .mk ≤ n ∧ look e 5 .mk = .raw (.int .i64 k) ∧ m + k = zs.length) zs.length ?_ ?_
 ·exact ⟨0, hn h .mk, up_self, Nat.le_refl _, zsm, by omega⟩
 ·rintro m e h' hks ⟨k, n, rfl, hnn, e5, hk⟩
  simp -dsimp -implicitDefEqProofs only [go_sem, sQ1] at hks
  by_cases h2 : (k : Int) < (zs.length : Int)
  ·have h3 : k < zs.length := by omega
   repeat (first | rw [ko] | rw [kr] | simp -dsimp -implicitDefEqProofs only [go_sem, sQ1, hks, e5, h2])
   refine dq_intro [(0, []), (1, []), (2, []), (3, []), (4, []), (5, []), (6, []), (7, []), (8, []), (9, [])] (by kernel_rfl) ?_
   repeat (first | rw [ko] | rw [kr] | simp -dsimp -implicitDefEqProofs only [go_sem, sQ1, sQ2, sQ3, h3])
   refine pw_intro (eqMerge_ok (F := under (under f k)) (F' := under (under f' k)) (c := zs.getD k default) (hf2 _ (getD_mem h3))) ?_
   rintro _ n2 hn2 rfl
   simp only [hn_up] at hn2
   repeat (first | rw [ko] | rw [kr] | simp -dsimp -implicitDefEqProofs only [go_sem, sQ1, wrap_succ h3 hf1])
   exact nx_keep (m - 1) (by omega) zsm ⟨k + 1, n2, up_up, by omega, zsm, by omega⟩
  ·repeat (first | rw [ko] | rw [kr] | simp -dsimp -implicitDefEqProofs only [go_sem, sQ1, hks, e5, h2])
   exact ⟨le_up (H2.le.refl _) hnn, ⟨_, rfl⟩, rfl⟩
theorem toMergeS_new {f : Adr} {zs : List LMerge} {h : H2} (hs : szMergeS zs ≤ 1048576) : NewT Tryz.prog W0 53 [.sl f 2 (rMergeS zs)] h (.l 2 (rMergeS zs)) := by
 unfold szMergeS at hs
 have hE : ∀ a, (eMerge a).length = 2 := fun a => rfl
 refine begins [[0], [0], [0, 3], [0, 3, 4], [0, 3, 4], [0, 3, 4], [3]] Tryz.func53 rfl (rs := [.tmp 2]) rfl rfl ?_
 intro wf
 repeat (first | rw [ko] | rw [kr] | simp -dsimp -implicitDefEqProofs only [go_sem])
 refine make_intro Ai.ty_el40 Ai.ty_zr165 (by decide) ⟨by omega, by simp only [Int.toNat_natCast]; have : Ai.most = 1099511627776 := rfl; omega⟩ ?_
 repeat (first | rw [ko] | rw [kr] | simp -dsimp -implicitDefEqProofs only [go_sem, sQ1])
 refine lz_keep [0, 3] (fun m e h' => ∃ (k : Nat) (cs : List X) (bs : List Nat), look e 4 .mk = .raw (.int .i64 k) ∧ m + k = zs.length ∧ hg h' (hn h .mk) .mk = some ⟨2, cs⟩ ∧ cs.length = zs.length * 2 ∧ OTs h' bs (cs.take (k * 2)) (((zs.take k).map eMerge).flatten) ∧ Bl (hn h .mk + 1) (hn h' .mk) bs ∧ h.le h' ∧ hn h .mk < hn h' .mk) zs.length ?_ ?_
 ·exact ⟨0, _, [], zsm, by omega, (by rw [hg_push, hoo]; rfl), by simp [rep_len], by simpa using OTs.nil, Bl.nil, le_push (H2.le.refl _), by rw [hn_push]; omega⟩
 ·rintro m e h' hks ⟨k, cs, bs, e4, hk, hrow, hcs, ho, hbl, hle, hlt⟩
  simp -dsimp -implicitDefEqProofs only [go_sem] at hks
  by_cases h2 : (k : Int) < (zs.length : Int)
  ·have h3 : k < zs.length := by omega
   have hsm : szMerge (zs.getD k default) ≤ sumN szMerge zs := sumN_mem (f := szMerge) (getD_mem h3)
   repeat (first | rw [ko] | rw [kr] | simp -dsimp -implicitDefEqProofs only [go_sem, sQ1, sQ2, sQ3, hks, e4, h2, h3])
   refine wz_intro (toMerge_ok (F := under (under f k)) (c := zs.getD k default) (by omega)) ?_
   rintro _ g2 ⟨l2, ys, b2, rfl, o2, bl2⟩
   have nn2 := l2.1
   have hyl : (ys).length = 2 := (OTs.len o2).trans (hE _)
   have hyo := OTs.okx o2
   obtain ⟨w1, w2, w3⟩ := wrt_next hcs h3 hyl
   have row2 := (l2.2 (hn h .mk) hlt).trans hrow
   have hi2 : (0 : Int) ≤ (k : Int) ∧ (k : Int) < (zs.length : Int) := by omega
   repeat (first | rw [ko] | rw [kr] | simp -dsimp -implicitDefEqProofs only [go_sem, sQ1, row2, hi2, hyl, hyo, w1, wrap_succ h3 (by omega)])
   have hset : ∀ {b : Nat} {kk : OB}, b ≠ hn h .mk → (g2.set (hn h .mk) kk).get b = g2.get b := fun hb => by simp only [H2.set]; rw [if_neg hb]
   refine nx_keep (m - 1) (by omega) zsm ⟨k + 1, _, bs ++ b2, zsm, by omega, (by rw [hg_set, hoo]; rfl), w2, ?_, ?_, le_set (hle.trans l2) (Nat.le_refl _), by simp -dsimp -implicitDefEqProofs only [go_sem] <;> omega⟩
   ·rw [w3, flat_next h3]
    refine OTs.append ((OTs.keep ho l2 hbl).frame fun b hb => hset (by have := (hbl.2 b hb).1; omega)) (o2.frame fun b hb => hset (by have := (bl2.2 b hb).1; omega))
   ·rw [hn_set]
    exact hbl.append bl2 (by omega) nn2
  ·repeat (first | rw [ko] | rw [kr] | simp -dsimp -implicitDefEqProofs only [go_sem, sQ1, hks, e4, h2])
   have : k = zs.length := by omega
   subst this
   obtain ⟨q1, q2⟩ := OT.full hE hrow hcs ho hbl hlt
   exact ⟨hle, _, q1, q2⟩
structure LMatrix where
 width : Int
 rows : List (List Int)
 scales : List (List Int)
 mul : Int
 shift : Int
instance : Inhabited LMatrix := ⟨⟨default, default, default, default, default⟩⟩
def eMatrix (c : LMatrix) : List T := [.v (.int .i64 c.width), .l 1 (rIntSS c.rows), .l 1 (rIntSS c.scales), .v (.int .i64 c.mul), .v (.int .i64 c.shift)]
def xMatrix (F : Nat → Adr) (c : LMatrix) : List X := [.raw (.int .i64 c.width), .sl (F 1) 1 (rIntSS c.rows), .sl (F 2) 1 (rIntSS c.scales), .raw (.int .i64 c.mul), .raw (.int .i64 c.shift)]
theorem eMatrix_def {c : LMatrix} : eMatrix c = [.v (.int .i64 c.width), .l 1 (rIntSS c.rows), .l 1 (rIntSS c.scales), .v (.int .i64 c.mul), .v (.int .i64 c.shift)] := rfl
theorem xMatrix_def {F : Nat → Adr} {c : LMatrix} : xMatrix F c = [.raw (.int .i64 c.width), .sl (F 1) 1 (rIntSS c.rows), .sl (F 2) 1 (rIntSS c.scales), .raw (.int .i64 c.mul), .raw (.int .i64 c.shift)] := rfl
def szMatrix (c : LMatrix) : Nat := szIntSS c.rows + szIntSS c.scales
def fitMatrix (c : LMatrix) : Prop := fitIntSS c.rows ∧ fitIntSS c.scales
attribute [go_sem] eMatrix_def xMatrix_def
theorem invMatrix {g : H2} {bs : List Nat} {ys : List X} {c : LMatrix} (o : OTs g bs ys (eMatrix c)) : ∃ b1 s1 b2 s2, ys = [.raw (.int .i64 c.width), s1, s2, .raw (.int .i64 c.mul), .raw (.int .i64 c.shift)] ∧ bs = b1 ++ b2 ∧ OT g b1 s1 (.l 1 (rIntSS c.rows)) ∧ OT g b2 s2 (.l 1 (rIntSS c.scales)) := by
 unfold eMatrix at o
 obtain ⟨ys0, rfl, o0⟩ := OTs.headv o
 obtain ⟨b1, bs1, s1, ys1, rfl, rfl, a1, o1⟩ := OTs.head o0
 obtain ⟨b2, bs2, s2, ys2, rfl, rfl, a2, o2⟩ := OTs.head o1
 obtain ⟨ys3, rfl, o3⟩ := OTs.headv o2
 obtain ⟨ys4, rfl, o4⟩ := OTs.headv o3
 obtain ⟨rfl, rfl⟩ := OTs.tail0 o4
 exact ⟨_, _, _, _, rfl, by simp only [List.append_nil], a1, a2⟩
theorem outMatrix {g : H2} {c : LMatrix} {b1 b2 : List Nat} {s1 s2 : X} (a1 : OT g b1 s1 (.l 1 (rIntSS c.rows))) (a2 : OT g b2 s2 (.l 1 (rIntSS c.scales))) : OTs g (b1 ++ b2) [.raw (.int .i64 c.width), s1, s2, .raw (.int .i64 c.mul), .raw (.int .i64 c.shift)] (eMatrix c) := by
 have := OTs.cons (OT.raw (v := .int .i64 c.width) rfl) (OTs.cons a1 (OTs.cons a2 (OTs.cons (OT.raw (v := .int .i64 c.mul) rfl) (OTs.cons (OT.raw (v := .int .i64 c.shift) rfl) (OTs.nil)))))
 simpa only [eMatrix, List.append_nil, List.nil_append] using this
theorem szMatrix_ok {F : Nat → Adr} {c : LMatrix} {left : Int} {h : H2} (hf : fitMatrix c) (hl : 0 ≤ left ∧ left ≤ 1048576) : PW Tryz.prog W0 45 [.st (xMatrix F c), .raw (.int .i64 left)] h (fun y => ∃ k : Int, y = .raw (.int .i64 k) ∧ (0 ≤ k → (szMatrix c : Int) + k ≤ left)) := by
 unfold fitMatrix at hf
 refine PW.scalar ?_
 refine begins [[0, 1], [1, 2], [1, 2], [], [1, 2], [1], [], [1]] Tryz.func45 rfl (rs := [.tmp 4]) rfl rfl ?_
 intro wf
 repeat (first | rw [ko] | rw [kr] | simp -dsimp -implicitDefEqProofs only [go_sem, sQ1])
 refine pw_intro (szIntSS_pw  hf.1 ⟨by omega, by omega⟩) ?_
 rintro _ n1 hn1 ⟨k1, rfl, hk1⟩
 repeat (first | rw [ko] | rw [kr] | simp -dsimp -implicitDefEqProofs only [go_sem, sQ1])
 refine gz_dec (fun q1 => ?_) (fun q1 => ?_)
 ·repeat (first | rw [ko] | rw [kr] | simp -dsimp -implicitDefEqProofs only [go_sem])
  exact ⟨zale, ⟨_, rfl⟩, _, rfl, fun hh => by omega⟩
 repeat (first | rw [ko] | rw [kr] | simp -dsimp -implicitDefEqProofs only [go_sem, sQ1])
 refine pw_intro (szIntSS_pw  hf.2 ⟨by omega, by omega⟩) ?_
 rintro _ n2 hn2 ⟨k2, rfl, hk2⟩
 repeat (first | rw [ko] | rw [kr] | simp -dsimp -implicitDefEqProofs only [go_sem])
 refine gz_dec (fun q2 => ?_) (fun q2 => ?_)
 ·repeat (first | rw [ko] | rw [kr] | simp -dsimp -implicitDefEqProofs only [go_sem])
  exact ⟨zale, ⟨_, rfl⟩, _, rfl, fun hh => by omega⟩
 repeat (first | rw [ko] | rw [kr] | simp -dsimp -implicitDefEqProofs only [go_sem, sQ1])
 exact ⟨zale, ⟨_, rfl⟩, _, rfl, fun hh => by unfold szMatrix; omega⟩
theorem eqMatrix_ok {F F' : Nat → Adr} {c : LMatrix} {h : H2} (hf : fitMatrix c) : PW Tryz.prog W0 69 [.st (xMatrix F c), .st (xMatrix F' c)] h (fun y => y = .raw (.bool true)) := by
 unfold fitMatrix at hf
 refine PW.scalar ?_
 refine begins [[0, 1], [2, 3], [], [2, 3], [], [2, 3], [], [2, 3], [], [2, 3], [], []] Tryz.func69 rfl (rs := [.tmp 4]) rfl rfl ?_
 intro wf
 repeat (first | rw [ko] | rw [kr] | simp -dsimp -implicitDefEqProofs only [go_sem, sQ1])
 refine pw_intro (eqIntSS_pw  hf.1) ?_
 rintro _ n1 hn1 rfl
 repeat (first | rw [ko] | rw [kr] | simp -dsimp -implicitDefEqProofs only [go_sem, sQ1])
 refine pw_intro (eqIntSS_pw  hf.2) ?_
 rintro _ n2 hn2 rfl
 repeat (first | rw [ko] | rw [kr] | simp -dsimp -implicitDefEqProofs only [go_sem, sQ1])
 exact ⟨zale, ⟨_, rfl⟩, rfl⟩
theorem toMatrix_ok {F : Nat → Adr} {c : LMatrix} {h : H2} (hs : szMatrix c ≤ 1048576) : NewS Tryz.prog W0 56 [.st (xMatrix F c)] h (eMatrix c) := by
 unfold szMatrix at hs
 refine begins [[0], [1, 2], [1, 2, 3], [1, 2, 3], [1, 2, 3], [1, 2, 3], [1, 2, 3], [2, 3]] Tryz.func56 rfl (rs := [.cell 2 42]) rfl rfl ?_
 intro wf
 repeat (first | rw [ko] | rw [kr] | simp -dsimp -implicitDefEqProofs only [go_sem, sQ1])
 refine wz_intro (toIntSS_new  (by omega)) ?_
 rintro s1 g1 ⟨l1, b1, o1, bl1⟩
 have ce1 := OT.cell o1
 have n1 := l1.n
 have a10 := l1.2 (hn h .mk) (by simp only [hn_push, hn_set]; omega)
 have a11 := l1.2 (hn h .mk + 1) (by simp only [hn_push, hn_set]; omega)
 have a12 := l1.2 (hn h .mk + 1 + 1) (by simp only [hn_push, hn_set]; omega)
 simp -dsimp -implicitDefEqProofs only [go_sem, hoo] at n1 a10 a11 a12
 have L1 : h.le g1 := H2.le.trans zale l1
 repeat (first | rw [ko] | rw [kr] | simp -dsimp -implicitDefEqProofs only [go_sem, sQ1, a10, a12, ce1])
 refine wz_intro (toIntSS_new  (by omega)) ?_
 rintro s2 g2 ⟨l2, b2, o2, bl2⟩
 have ce2 := OT.cell o2
 have n2 := l2.n
 have a20 := l2.2 (hn h .mk) (by simp only [hn_set]; omega)
 have a21 := l2.2 (hn h .mk + 1) (by simp only [hn_set]; omega)
 have a22 := l2.2 (hn h .mk + 1 + 1) (by simp only [hn_set]; omega)
 simp -dsimp -implicitDefEqProofs only [go_sem, a10, a11, hoo] at n2 a20 a21 a22
 have L2 : h.le g2 := H2.le.trans zale l2
 repeat (first | rw [ko] | rw [kr] | simp -dsimp -implicitDefEqProofs only [go_sem, sQ1, sQ2, a20, a21, a22, ce1, ce2])
 refine ⟨zale, _, b1 ++ b2, rfl, outMatrix (c := c) ?_ ?_, ?_⟩
 ·refine OT.frame o1 fun b hb => ?_
  have hbl := bl1.2 b (hb)
  simp only [hn_push, hn_set] at hbl
  simp only [H2.set]
  rw [if_neg (by omega), if_neg (by omega)]
  rw [show g2.get b = _ from l2.2 b (by simp only [hn_set]; omega)]
  simp only [hg, H2.set]
  rw [if_neg (by omega)]
 ·refine OT.frame o2 fun b hb => ?_
  have hbl := bl2.2 b (hb)
  simp only [hn_set] at hbl
  simp only [H2.set]
  rw [if_neg (by omega), if_neg (by omega)]
 ·simp only [hn_set]
  have m1 := bl1
  simp only [hn_push, hn_set] at m1
  have m2 := bl2
  simp only [hn_set] at m2
  have := ((Bl.append m1 m2 (by omega) (by omega))).wide (N' := hn h .mk) (by omega) (Nat.le_refl _)
  simpa only [List.append_assoc] using this
structure LTurns where
 cos : List (List Int)
 sin : List (List Int)
instance : Inhabited LTurns := ⟨⟨default, default⟩⟩
def eTurns (c : LTurns) : List T := [.l 1 (rIntSS c.cos), .l 1 (rIntSS c.sin)]
def xTurns (F : Nat → Adr) (c : LTurns) : List X := [.sl (F 0) 1 (rIntSS c.cos), .sl (F 1) 1 (rIntSS c.sin)]
theorem xTurns_def {F : Nat → Adr} {c : LTurns} : xTurns F c = [.sl (F 0) 1 (rIntSS c.cos), .sl (F 1) 1 (rIntSS c.sin)] := rfl
def szTurns (c : LTurns) : Nat := szIntSS c.cos + szIntSS c.sin
def fitTurns (c : LTurns) : Prop := fitIntSS c.cos ∧ fitIntSS c.sin
attribute [go_sem] xTurns_def
theorem invTurns {g : H2} {bs : List Nat} {ys : List X} {c : LTurns} (o : OTs g bs ys (eTurns c)) : ∃ b0 s0 b1 s1, ys = [s0, s1] ∧ bs = b0 ++ b1 ∧ OT g b0 s0 (.l 1 (rIntSS c.cos)) ∧ OT g b1 s1 (.l 1 (rIntSS c.sin)) := by
 unfold eTurns at o
 obtain ⟨b0, bs0, s0, ys0, rfl, rfl, a0, o0⟩ := OTs.head o
 obtain ⟨b1, bs1, s1, ys1, rfl, rfl, a1, o1⟩ := OTs.head o0
 obtain ⟨rfl, rfl⟩ := OTs.tail0 o1
 exact ⟨_, _, _, _, rfl, by simp only [List.append_nil], a0, a1⟩
theorem outTurns {g : H2} {c : LTurns} {b0 b1 : List Nat} {s0 s1 : X} (a0 : OT g b0 s0 (.l 1 (rIntSS c.cos))) (a1 : OT g b1 s1 (.l 1 (rIntSS c.sin))) : OTs g (b0 ++ b1) [s0, s1] (eTurns c) := by
 have := OTs.cons a0 (OTs.cons a1 (OTs.nil))
 simpa only [eTurns, List.append_nil, List.nil_append] using this
theorem szTurns_ok {F : Nat → Adr} {c : LTurns} {left : Int} {h : H2} (hf : fitTurns c) (hl : 0 ≤ left ∧ left ≤ 1048576) : PW Tryz.prog W0 46 [.st (xTurns F c), .raw (.int .i64 left)] h (fun y => ∃ k : Int, y = .raw (.int .i64 k) ∧ (0 ≤ k → (szTurns c : Int) + k ≤ left)) := by
 unfold fitTurns at hf
 refine PW.scalar ?_
 refine begins [[0, 1], [1, 2], [1, 2], [], [1, 2], [1], [], [1]] Tryz.func46 rfl (rs := [.tmp 4]) rfl rfl ?_
 intro wf
 repeat (first | rw [ko] | rw [kr] | simp -dsimp -implicitDefEqProofs only [go_sem, sQ1])
 refine pw_intro (szIntSS_pw  hf.1 ⟨by omega, by omega⟩) ?_
 rintro _ n0 hn0 ⟨k0, rfl, hk0⟩
 repeat (first | rw [ko] | rw [kr] | simp -dsimp -implicitDefEqProofs only [go_sem, sQ1])
 refine gz_dec (fun q0 => ?_) (fun q0 => ?_)
 ·repeat (first | rw [ko] | rw [kr] | simp -dsimp -implicitDefEqProofs only [go_sem])
  exact ⟨zale, ⟨_, rfl⟩, _, rfl, fun hh => by omega⟩
 repeat (first | rw [ko] | rw [kr] | simp -dsimp -implicitDefEqProofs only [go_sem, sQ1])
 refine pw_intro (szIntSS_pw  hf.2 ⟨by omega, by omega⟩) ?_
 rintro _ n1 hn1 ⟨k1, rfl, hk1⟩
 repeat (first | rw [ko] | rw [kr] | simp -dsimp -implicitDefEqProofs only [go_sem])
 refine gz_dec (fun q1 => ?_) (fun q1 => ?_)
 ·repeat (first | rw [ko] | rw [kr] | simp -dsimp -implicitDefEqProofs only [go_sem])
  exact ⟨zale, ⟨_, rfl⟩, _, rfl, fun hh => by omega⟩
 repeat (first | rw [ko] | rw [kr] | simp -dsimp -implicitDefEqProofs only [go_sem, sQ1])
 exact ⟨zale, ⟨_, rfl⟩, _, rfl, fun hh => by unfold szTurns; omega⟩
theorem eqTurns_ok {F F' : Nat → Adr} {c : LTurns} {h : H2} (hf : fitTurns c) : PW Tryz.prog W0 70 [.st (xTurns F c), .st (xTurns F' c)] h (fun y => y = .raw (.bool true)) := by
 unfold fitTurns at hf
 refine PW.scalar ?_
 refine begins [[0, 1], [2, 3], [], [2, 3], [], []] Tryz.func70 rfl (rs := [.tmp 4]) rfl rfl ?_
 intro wf
 repeat (first | rw [ko] | rw [kr] | simp -dsimp -implicitDefEqProofs only [go_sem])
 refine pw_intro (eqIntSS_pw  hf.1) ?_
 rintro _ n0 hn0 rfl
 repeat (first | rw [ko] | rw [kr] | simp -dsimp -implicitDefEqProofs only [go_sem, sQ1])
 refine pw_intro (eqIntSS_pw  hf.2) ?_
 rintro _ n1 hn1 rfl
 repeat (first | rw [ko] | rw [kr] | simp -dsimp -implicitDefEqProofs only [go_sem])
 exact ⟨zale, ⟨_, rfl⟩, rfl⟩
theorem toTurns_ok {F : Nat → Adr} {c : LTurns} {h : H2} (hs : szTurns c ≤ 1048576) : NewS Tryz.prog W0 57 [.st (xTurns F c)] h (eTurns c) := by
 unfold szTurns at hs
 refine begins [[0], [1, 2], [1, 2, 3], [1, 2, 3], [2, 3]] Tryz.func57 rfl (rs := [.cell 2 43]) rfl rfl ?_
 intro wf
 repeat (first | rw [ko] | rw [kr] | simp -dsimp -implicitDefEqProofs only [go_sem])
 refine wz_intro (toIntSS_new  (by omega)) ?_
 rintro s0 g0 ⟨l0, b0, o0, bl0⟩
 have ce0 := OT.cell o0
 have n0 := l0.n
 have a00 := l0.2 (hn h .mk) (by simp only [hn_push]; omega)
 have a01 := l0.2 (hn h .mk + 1) (by simp only [hn_push]; omega)
 have a02 := l0.2 (hn h .mk + 1 + 1) (by simp only [hn_push]; omega)
 simp -dsimp -implicitDefEqProofs only [go_sem, hoo] at n0 a00 a01 a02
 have L0 : h.le g0 := H2.le.trans zale l0
 repeat (first | rw [ko] | rw [kr] | simp -dsimp -implicitDefEqProofs only [go_sem, sQ1, a00, a02, ce0])
 refine wz_intro (toIntSS_new  (by omega)) ?_
 rintro s1 g1 ⟨l1, b1, o1, bl1⟩
 have ce1 := OT.cell o1
 have n1 := l1.n
 have a10 := l1.2 (hn h .mk) (by simp only [hn_set]; omega)
 have a11 := l1.2 (hn h .mk + 1) (by simp only [hn_set]; omega)
 have a12 := l1.2 (hn h .mk + 1 + 1) (by simp only [hn_set]; omega)
 simp -dsimp -implicitDefEqProofs only [go_sem, a00, a01, hoo] at n1 a10 a11 a12
 have L1 : h.le g1 := H2.le.trans zale l1
 repeat (first | rw [ko] | rw [kr] | simp -dsimp -implicitDefEqProofs only [go_sem, sQ1, sQ2, a11, a12, ce0, ce1])
 refine ⟨zale, _, b0 ++ b1, rfl, outTurns (c := c) ?_ ?_, ?_⟩
 ·refine OT.frame o0 fun b hb => ?_
  have hbl := bl0.2 b (hb)
  simp only [hn_push] at hbl
  simp only [H2.set]
  rw [if_neg (by omega), if_neg (by omega)]
  rw [show g1.get b = _ from l1.2 b (by simp only [hn_set]; omega)]
  simp only [hg, H2.set]
  rw [if_neg (by omega)]
 ·refine OT.frame o1 fun b hb => ?_
  have hbl := bl1.2 b (hb)
  simp only [hn_set] at hbl
  simp only [H2.set]
  rw [if_neg (by omega), if_neg (by omega)]
 ·simp only [hn_set]
  have m0 := bl0
  simp only [hn_push] at m0
  have m1 := bl1
  simp only [hn_set] at m1
  have := ((Bl.append m0 m1 (by omega) (by omega))).wide (N' := hn h .mk) (by omega) (Nat.le_refl _)
  simpa only [List.append_assoc] using this
end Go.Bi
end
section
set_option maxRecDepth 20000
namespace Go.Bi
open Go.Proofs
open Go.Ai (wrap_i64)
variable {W0 : World}
structure LLayer where
 gain1 : List Int
 q : LMatrix
 k : LMatrix
 v : LMatrix
 o : LMatrix
 gain2 : List Int
 up : LMatrix
 down : LMatrix
instance : Inhabited LLayer := ⟨⟨default, default, default, default, default, default, default, default⟩⟩
def eLayer (c : LLayer) : List T := [.l 1 (ints c.gain1), .v (.int .i64 c.q.width), .l 1 (rIntSS c.q.rows), .l 1 (rIntSS c.q.scales), .v (.int .i64 c.q.mul), .v (.int .i64 c.q.shift), .v (.int .i64 c.k.width), .l 1 (rIntSS c.k.rows), .l 1 (rIntSS c.k.scales), .v (.int .i64 c.k.mul), .v (.int .i64 c.k.shift), .v (.int .i64 c.v.width), .l 1 (rIntSS c.v.rows), .l 1 (rIntSS c.v.scales), .v (.int .i64 c.v.mul), .v (.int .i64 c.v.shift), .v (.int .i64 c.o.width), .l 1 (rIntSS c.o.rows), .l 1 (rIntSS c.o.scales), .v (.int .i64 c.o.mul), .v (.int .i64 c.o.shift), .l 1 (ints c.gain2), .v (.int .i64 c.up.width), .l 1 (rIntSS c.up.rows), .l 1 (rIntSS c.up.scales), .v (.int .i64 c.up.mul), .v (.int .i64 c.up.shift), .v (.int .i64 c.down.width), .l 1 (rIntSS c.down.rows), .l 1 (rIntSS c.down.scales), .v (.int .i64 c.down.mul), .v (.int .i64 c.down.shift)]
def xLayer (F : Nat → Adr) (c : LLayer) : List X := [.sl (F 0) 1 (ints c.gain1), .raw (.int .i64 c.q.width), .sl (F 2) 1 (rIntSS c.q.rows), .sl (F 3) 1 (rIntSS c.q.scales), .raw (.int .i64 c.q.mul), .raw (.int .i64 c.q.shift), .raw (.int .i64 c.k.width), .sl (F 7) 1 (rIntSS c.k.rows), .sl (F 8) 1 (rIntSS c.k.scales), .raw (.int .i64 c.k.mul), .raw (.int .i64 c.k.shift), .raw (.int .i64 c.v.width), .sl (F 12) 1 (rIntSS c.v.rows), .sl (F 13) 1 (rIntSS c.v.scales), .raw (.int .i64 c.v.mul), .raw (.int .i64 c.v.shift), .raw (.int .i64 c.o.width), .sl (F 17) 1 (rIntSS c.o.rows), .sl (F 18) 1 (rIntSS c.o.scales), .raw (.int .i64 c.o.mul), .raw (.int .i64 c.o.shift), .sl (F 21) 1 (ints c.gain2), .raw (.int .i64 c.up.width), .sl (F 23) 1 (rIntSS c.up.rows), .sl (F 24) 1 (rIntSS c.up.scales), .raw (.int .i64 c.up.mul), .raw (.int .i64 c.up.shift), .raw (.int .i64 c.down.width), .sl (F 28) 1 (rIntSS c.down.rows), .sl (F 29) 1 (rIntSS c.down.scales), .raw (.int .i64 c.down.mul), .raw (.int .i64 c.down.shift)]
theorem eLayer_def {c : LLayer} : eLayer c = [.l 1 (ints c.gain1), .v (.int .i64 c.q.width), .l 1 (rIntSS c.q.rows), .l 1 (rIntSS c.q.scales), .v (.int .i64 c.q.mul), .v (.int .i64 c.q.shift), .v (.int .i64 c.k.width), .l 1 (rIntSS c.k.rows), .l 1 (rIntSS c.k.scales), .v (.int .i64 c.k.mul), .v (.int .i64 c.k.shift), .v (.int .i64 c.v.width), .l 1 (rIntSS c.v.rows), .l 1 (rIntSS c.v.scales), .v (.int .i64 c.v.mul), .v (.int .i64 c.v.shift), .v (.int .i64 c.o.width), .l 1 (rIntSS c.o.rows), .l 1 (rIntSS c.o.scales), .v (.int .i64 c.o.mul), .v (.int .i64 c.o.shift), .l 1 (ints c.gain2), .v (.int .i64 c.up.width), .l 1 (rIntSS c.up.rows), .l 1 (rIntSS c.up.scales), .v (.int .i64 c.up.mul), .v (.int .i64 c.up.shift), .v (.int .i64 c.down.width), .l 1 (rIntSS c.down.rows), .l 1 (rIntSS c.down.scales), .v (.int .i64 c.down.mul), .v (.int .i64 c.down.shift)] := rfl
theorem xLayer_def {F : Nat → Adr} {c : LLayer} : xLayer F c = [.sl (F 0) 1 (ints c.gain1), .raw (.int .i64 c.q.width), .sl (F 2) 1 (rIntSS c.q.rows), .sl (F 3) 1 (rIntSS c.q.scales), .raw (.int .i64 c.q.mul), .raw (.int .i64 c.q.shift), .raw (.int .i64 c.k.width), .sl (F 7) 1 (rIntSS c.k.rows), .sl (F 8) 1 (rIntSS c.k.scales), .raw (.int .i64 c.k.mul), .raw (.int .i64 c.k.shift), .raw (.int .i64 c.v.width), .sl (F 12) 1 (rIntSS c.v.rows), .sl (F 13) 1 (rIntSS c.v.scales), .raw (.int .i64 c.v.mul), .raw (.int .i64 c.v.shift), .raw (.int .i64 c.o.width), .sl (F 17) 1 (rIntSS c.o.rows), .sl (F 18) 1 (rIntSS c.o.scales), .raw (.int .i64 c.o.mul), .raw (.int .i64 c.o.shift), .sl (F 21) 1 (ints c.gain2), .raw (.int .i64 c.up.width), .sl (F 23) 1 (rIntSS c.up.rows), .sl (F 24) 1 (rIntSS c.up.scales), .raw (.int .i64 c.up.mul), .raw (.int .i64 c.up.shift), .raw (.int .i64 c.down.width), .sl (F 28) 1 (rIntSS c.down.rows), .sl (F 29) 1 (rIntSS c.down.scales), .raw (.int .i64 c.down.mul), .raw (.int .i64 c.down.shift)] := rfl
def szLayer (c : LLayer) : Nat := c.gain1.length + szMatrix c.q + szMatrix c.k + szMatrix c.v + szMatrix c.o + c.gain2.length + szMatrix c.up + szMatrix c.down
def fitLayer (c : LLayer) : Prop := c.gain1.length ≤ 9223372036854775807 ∧ fitMatrix c.q ∧ fitMatrix c.k ∧ fitMatrix c.v ∧ fitMatrix c.o ∧ c.gain2.length ≤ 9223372036854775807 ∧ fitMatrix c.up ∧ fitMatrix c.down
attribute [go_sem] eLayer_def xLayer_def
theorem outLayer {g : H2} {c : LLayer} {b0 b2 b3 b7 b8 b12 b13 b17 b18 b21 b23 b24 b28 b29 : List Nat} {s0 s2 s3 s7 s8 s12 s13 s17 s18 s21 s23 s24 s28 s29 : X} (a0 : OT g b0 s0 (.l 1 (ints c.gain1))) (a2 : OT g b2 s2 (.l 1 (rIntSS c.q.rows))) (a3 : OT g b3 s3 (.l 1 (rIntSS c.q.scales))) (a7 : OT g b7 s7 (.l 1 (rIntSS c.k.rows))) (a8 : OT g b8 s8 (.l 1 (rIntSS c.k.scales))) (a12 : OT g b12 s12 (.l 1 (rIntSS c.v.rows))) (a13 : OT g b13 s13 (.l 1 (rIntSS c.v.scales))) (a17 : OT g b17 s17 (.l 1 (rIntSS c.o.rows))) (a18 : OT g b18 s18 (.l 1 (rIntSS c.o.scales))) (a21 : OT g b21 s21 (.l 1 (ints c.gain2))) (a23 : OT g b23 s23 (.l 1 (rIntSS c.up.rows))) (a24 : OT g b24 s24 (.l 1 (rIntSS c.up.scales))) (a28 : OT g b28 s28 (.l 1 (rIntSS c.down.rows))) (a29 : OT g b29 s29 (.l 1 (rIntSS c.down.scales))) : OTs g (b0 ++ (b2 ++ (b3 ++ (b7 ++ (b8 ++ (b12 ++ (b13 ++ (b17 ++ (b18 ++ (b21 ++ (b23 ++ (b24 ++ (b28 ++ b29))))))))))))) [s0, .raw (.int .i64 c.q.width), s2, s3, .raw (.int .i64 c.q.mul), .raw (.int .i64 c.q.shift), .raw (.int .i64 c.k.width), s7, s8, .raw (.int .i64 c.k.mul), .raw (.int .i64 c.k.shift), .raw (.int .i64 c.v.width), s12, s13, .raw (.int .i64 c.v.mul), .raw (.int .i64 c.v.shift), .raw (.int .i64 c.o.width), s17, s18, .raw (.int .i64 c.o.mul), .raw (.int .i64 c.o.shift), s21, .raw (.int .i64 c.up.width), s23, s24, .raw (.int .i64 c.up.mul), .raw (.int .i64 c.up.shift), .raw (.int .i64 c.down.width), s28, s29, .raw (.int .i64 c.down.mul), .raw (.int .i64 c.down.shift)] (eLayer c) := by
 have := OTs.cons a0 (OTs.cons (OT.raw (v := .int .i64 c.q.width) rfl) (OTs.cons a2 (OTs.cons a3 (OTs.cons (OT.raw (v := .int .i64 c.q.mul) rfl) (OTs.cons (OT.raw (v := .int .i64 c.q.shift) rfl) (OTs.cons (OT.raw (v := .int .i64 c.k.width) rfl) (OTs.cons a7 (OTs.cons a8 (OTs.cons (OT.raw (v := .int .i64 c.k.mul) rfl) (OTs.cons (OT.raw (v := .int .i64 c.k.shift) rfl) (OTs.cons (OT.raw (v := .int .i64 c.v.width) rfl) (OTs.cons a12 (OTs.cons a13 (OTs.cons (OT.raw (v := .int .i64 c.v.mul) rfl) (OTs.cons (OT.raw (v := .int .i64 c.v.shift) rfl) (OTs.cons (OT.raw (v := .int .i64 c.o.width) rfl) (OTs.cons a17 (OTs.cons a18 (OTs.cons (OT.raw (v := .int .i64 c.o.mul) rfl) (OTs.cons (OT.raw (v := .int .i64 c.o.shift) rfl) (OTs.cons a21 (OTs.cons (OT.raw (v := .int .i64 c.up.width) rfl) (OTs.cons a23 (OTs.cons a24 (OTs.cons (OT.raw (v := .int .i64 c.up.mul) rfl) (OTs.cons (OT.raw (v := .int .i64 c.up.shift) rfl) (OTs.cons (OT.raw (v := .int .i64 c.down.width) rfl) (OTs.cons a28 (OTs.cons a29 (OTs.cons (OT.raw (v := .int .i64 c.down.mul) rfl) (OTs.cons (OT.raw (v := .int .i64 c.down.shift) rfl) (OTs.nil))))))))))))))))))))))))))))))))
 simpa only [eLayer, List.append_nil, List.nil_append] using this
theorem szLayer_ok {F : Nat → Adr} {c : LLayer} {left : Int} {h : H2} (hf : fitLayer c) (hl : 0 ≤ left ∧ left ≤ 1048576) : PW Tryz.prog W0 96 [.st (xLayer F c), .raw (.int .i64 left)] h (fun y => ∃ k : Int, y = .raw (.int .i64 k) ∧ (0 ≤ k → (szLayer c : Int) + k ≤ left)) := by
 unfold fitLayer at hf
 refine PW.scalar ?_
 refine begins [[0, 1], [1, 2], [1, 2], [], [1, 2], [1, 2], [], [1, 2], [1, 2], [], [1, 2], [1, 2], [], [1, 2], [1, 2], [], [1, 2], [1, 2], [], [1, 2], [1, 2], [], [1, 2], [1], [], [1]] Tryz.func96 rfl (rs := [.tmp 4]) rfl rfl ?_
 intro wf
 repeat (first | rw [ko] | rw [kr] | simp -dsimp -implicitDefEqProofs only [go_sem, sQ1])
 refine pw_intro (szIntS_pw  hf.1 ⟨by omega, by omega⟩) ?_
 rintro _ n0 hn0 ⟨k0, rfl, hk0⟩
 repeat (first | rw [ko] | rw [kr] | simp -dsimp -implicitDefEqProofs only [go_sem, sQ1])
 refine gz_dec (fun q0 => ?_) (fun q0 => ?_)
 ·repeat (first | rw [ko] | rw [kr] | simp -dsimp -implicitDefEqProofs only [go_sem])
  exact ⟨zale, ⟨_, rfl⟩, _, rfl, fun hh => by omega⟩
 repeat (first | rw [ko] | rw [kr] | simp -dsimp -implicitDefEqProofs only [go_sem, sQ1])
 refine pw_intro (szMatrix_ok (F := fun j => F (j + 1)) hf.2.1 ⟨by omega, by omega⟩) ?_
 rintro _ n1 hn1 ⟨k1, rfl, hk1⟩
 repeat (first | rw [ko] | rw [kr] | simp -dsimp -implicitDefEqProofs only [go_sem, sQ1])
 refine gz_dec (fun q1 => ?_) (fun q1 => ?_)
 ·repeat (first | rw [ko] | rw [kr] | simp -dsimp -implicitDefEqProofs only [go_sem])
  exact ⟨zale, ⟨_, rfl⟩, _, rfl, fun hh => by omega⟩
 repeat (first | rw [ko] | rw [kr] | simp -dsimp -implicitDefEqProofs only [go_sem, sQ1])
 refine pw_intro (szMatrix_ok (F := fun j => F (j + 6)) hf.2.2.1 ⟨by omega, by omega⟩) ?_
 rintro _ n2 hn2 ⟨k2, rfl, hk2⟩
 repeat (first | rw [ko] | rw [kr] | simp -dsimp -implicitDefEqProofs only [go_sem, sQ1])
 refine gz_dec (fun q2 => ?_) (fun q2 => ?_)
 ·repeat (first | rw [ko] | rw [kr] | simp -dsimp -implicitDefEqProofs only [go_sem])
  exact ⟨zale, ⟨_, rfl⟩, _, rfl, fun hh => by omega⟩
 repeat (first | rw [ko] | rw [kr] | simp -dsimp -implicitDefEqProofs only [go_sem, sQ1])
 refine pw_intro (szMatrix_ok (F := fun j => F (j + 11)) hf.2.2.2.1 ⟨by omega, by omega⟩) ?_
 rintro _ n3 hn3 ⟨k3, rfl, hk3⟩
 repeat (first | rw [ko] | rw [kr] | simp -dsimp -implicitDefEqProofs only [go_sem, sQ1])
 refine gz_dec (fun q3 => ?_) (fun q3 => ?_)
 ·repeat (first | rw [ko] | rw [kr] | simp -dsimp -implicitDefEqProofs only [go_sem])
  exact ⟨zale, ⟨_, rfl⟩, _, rfl, fun hh => by omega⟩
 repeat (first | rw [ko] | rw [kr] | simp -dsimp -implicitDefEqProofs only [go_sem, sQ1])
 refine pw_intro (szMatrix_ok (F := fun j => F (j + 16)) hf.2.2.2.2.1 ⟨by omega, by omega⟩) ?_
 rintro _ n4 hn4 ⟨k4, rfl, hk4⟩
 repeat (first | rw [ko] | rw [kr] | simp -dsimp -implicitDefEqProofs only [go_sem, sQ1])
 refine gz_dec (fun q4 => ?_) (fun q4 => ?_)
 ·repeat (first | rw [ko] | rw [kr] | simp -dsimp -implicitDefEqProofs only [go_sem])
  exact ⟨zale, ⟨_, rfl⟩, _, rfl, fun hh => by omega⟩
 repeat (first | rw [ko] | rw [kr] | simp -dsimp -implicitDefEqProofs only [go_sem, sQ1])
 refine pw_intro (szIntS_pw  hf.2.2.2.2.2.1 ⟨by omega, by omega⟩) ?_
 rintro _ n5 hn5 ⟨k5, rfl, hk5⟩
 repeat (first | rw [ko] | rw [kr] | simp -dsimp -implicitDefEqProofs only [go_sem, sQ1])
 refine gz_dec (fun q5 => ?_) (fun q5 => ?_)
 ·repeat (first | rw [ko] | rw [kr] | simp -dsimp -implicitDefEqProofs only [go_sem])
  exact ⟨zale, ⟨_, rfl⟩, _, rfl, fun hh => by omega⟩
 repeat (first | rw [ko] | rw [kr] | simp -dsimp -implicitDefEqProofs only [go_sem, sQ1])
 refine pw_intro (szMatrix_ok (F := fun j => F (j + 22)) hf.2.2.2.2.2.2.1 ⟨by omega, by omega⟩) ?_
 rintro _ n6 hn6 ⟨k6, rfl, hk6⟩
 repeat (first | rw [ko] | rw [kr] | simp -dsimp -implicitDefEqProofs only [go_sem, sQ1])
 refine gz_dec (fun q6 => ?_) (fun q6 => ?_)
 ·repeat (first | rw [ko] | rw [kr] | simp -dsimp -implicitDefEqProofs only [go_sem])
  exact ⟨zale, ⟨_, rfl⟩, _, rfl, fun hh => by omega⟩
 repeat (first | rw [ko] | rw [kr] | simp -dsimp -implicitDefEqProofs only [go_sem, sQ1])
 refine pw_intro (szMatrix_ok (F := fun j => F (j + 27)) hf.2.2.2.2.2.2.2 ⟨by omega, by omega⟩) ?_
 rintro _ n7 hn7 ⟨k7, rfl, hk7⟩
 repeat (first | rw [ko] | rw [kr] | simp -dsimp -implicitDefEqProofs only [go_sem])
 refine gz_dec (fun q7 => ?_) (fun q7 => ?_)
 ·repeat (first | rw [ko] | rw [kr] | simp -dsimp -implicitDefEqProofs only [go_sem])
  exact ⟨zale, ⟨_, rfl⟩, _, rfl, fun hh => by omega⟩
 repeat (first | rw [ko] | rw [kr] | simp -dsimp -implicitDefEqProofs only [go_sem, sQ1])
 exact ⟨zale, ⟨_, rfl⟩, _, rfl, fun hh => by unfold szLayer; omega⟩
theorem eqLayer_ok {F F' : Nat → Adr} {c : LLayer} {h : H2} (hf : fitLayer c) : PW Tryz.prog W0 140 [.st (xLayer F c), .st (xLayer F' c)] h (fun y => y = .raw (.bool true)) := by
 unfold fitLayer at hf
 refine PW.scalar ?_
 refine begins [[0, 1], [2, 3], [], [2, 3], [], [2, 3], [], [2, 3], [], [2, 3], [], [2, 3], [], [2, 3], [], [2, 3], [], []] Tryz.func140 rfl (rs := [.tmp 4]) rfl rfl ?_
 intro wf
 repeat (first | rw [ko] | rw [kr] | simp -dsimp -implicitDefEqProofs only [go_sem])
 refine pw_intro (eqIntS_pw  hf.1) ?_
 rintro _ n0 hn0 rfl
 repeat (first | rw [ko] | rw [kr] | simp -dsimp -implicitDefEqProofs only [go_sem, sQ1])
 refine pw_intro (eqMatrix_ok (F := fun j => F (j + 1)) (F' := fun j => F' (j + 1)) hf.2.1) ?_
 rintro _ n1 hn1 rfl
 repeat (first | rw [ko] | rw [kr] | simp -dsimp -implicitDefEqProofs only [go_sem, sQ1])
 refine pw_intro (eqMatrix_ok (F := fun j => F (j + 6)) (F' := fun j => F' (j + 6)) hf.2.2.1) ?_
 rintro _ n2 hn2 rfl
 repeat (first | rw [ko] | rw [kr] | simp -dsimp -implicitDefEqProofs only [go_sem, sQ1])
 refine pw_intro (eqMatrix_ok (F := fun j => F (j + 11)) (F' := fun j => F' (j + 11)) hf.2.2.2.1) ?_
 rintro _ n3 hn3 rfl
 repeat (first | rw [ko] | rw [kr] | simp -dsimp -implicitDefEqProofs only [go_sem, sQ1])
 refine pw_intro (eqMatrix_ok (F := fun j => F (j + 16)) (F' := fun j => F' (j + 16)) hf.2.2.2.2.1) ?_
 rintro _ n4 hn4 rfl
 repeat (first | rw [ko] | rw [kr] | simp -dsimp -implicitDefEqProofs only [go_sem, sQ1])
 refine pw_intro (eqIntS_pw  hf.2.2.2.2.2.1) ?_
 rintro _ n5 hn5 rfl
 repeat (first | rw [ko] | rw [kr] | simp -dsimp -implicitDefEqProofs only [go_sem, sQ1])
 refine pw_intro (eqMatrix_ok (F := fun j => F (j + 22)) (F' := fun j => F' (j + 22)) hf.2.2.2.2.2.2.1) ?_
 rintro _ n6 hn6 rfl
 repeat (first | rw [ko] | rw [kr] | simp -dsimp -implicitDefEqProofs only [go_sem, sQ1])
 refine pw_intro (eqMatrix_ok (F := fun j => F (j + 27)) (F' := fun j => F' (j + 27)) hf.2.2.2.2.2.2.2) ?_
 rintro _ n7 hn7 rfl
 repeat (first | rw [ko] | rw [kr] | simp -dsimp -implicitDefEqProofs only [go_sem])
 exact ⟨zale, ⟨_, rfl⟩, rfl⟩
theorem toLayer_ok {F : Nat → Adr} {c : LLayer} {h : H2} (hs : szLayer c ≤ 1048576) : NewS Tryz.prog W0 115 [.st (xLayer F c)] h (eLayer c) := by
 unfold szLayer at hs
 refine begins [[0], [1, 2], [1, 2, 3], [1, 2, 3], [1, 2, 3], [1, 2, 3], [1, 2, 3], [1, 2, 3], [1, 2, 3], [1, 2, 3], [2, 3]] Tryz.func115 rfl (rs := [.cell 2 152]) rfl rfl ?_
 intro wf
 repeat (first | rw [ko] | rw [kr] | simp -dsimp -implicitDefEqProofs only [go_sem])
 refine wz_intro (toIntS_new  (by omega)) ?_
 rintro s0 g0 ⟨l0, b0, o0, bl0⟩
 have ce0 := OT.cell o0
 have n0 := l0.n
 have a00 := l0.2 (hn h .mk) (by simp only [hn_push]; omega)
 have a01 := l0.2 (hn h .mk + 1) (by simp only [hn_push]; omega)
 have a02 := l0.2 (hn h .mk + 1 + 1) (by simp only [hn_push]; omega)
 simp -dsimp -implicitDefEqProofs only [go_sem, hoo] at n0 a00 a01 a02
 have L0 : h.le g0 := H2.le.trans zale l0
 repeat (first | rw [ko] | rw [kr] | simp -dsimp -implicitDefEqProofs only [go_sem, sQ1, a00, a02, ce0])
 refine wz_intro (toMatrix_ok (F := fun j => F (j + 1)) (by omega)) ?_
 rintro _ g1 ⟨l1, ys1, b1, rfl, o1, bl1⟩
 obtain ⟨b1_1, s2, b1_2, s3, rfl, hb1, o1_1, o1_2⟩ := invMatrix o1
 have ce2 := OT.cell o1_1
 have ce3 := OT.cell o1_2
 have n1 := l1.n
 have a10 := l1.2 (hn h .mk) (by simp only [hn_set]; omega)
 have a11 := l1.2 (hn h .mk + 1) (by simp only [hn_set]; omega)
 have a12 := l1.2 (hn h .mk + 1 + 1) (by simp only [hn_set]; omega)
 simp -dsimp -implicitDefEqProofs only [go_sem, a00, a01, hoo] at n1 a10 a11 a12
 have L1 : h.le g1 := H2.le.trans zale l1
 repeat (first | rw [ko] | rw [kr] | simp -dsimp -implicitDefEqProofs only [go_sem, sQ1, sQ2, a10, a12, ce2, ce3])
 refine wz_intro (toMatrix_ok (F := fun j => F (j + 6)) (by omega)) ?_
 rintro _ g2 ⟨l2, ys2, b2, rfl, o2, bl2⟩
 obtain ⟨b2_1, s7, b2_2, s8, rfl, hb2, o2_1, o2_2⟩ := invMatrix o2
 have ce7 := OT.cell o2_1
 have ce8 := OT.cell o2_2
 have n2 := l2.n
 have a20 := l2.2 (hn h .mk) (by simp only [hn_set]; omega)
 have a21 := l2.2 (hn h .mk + 1) (by simp only [hn_set]; omega)
 have a22 := l2.2 (hn h .mk + 1 + 1) (by simp only [hn_set]; omega)
 simp -dsimp -implicitDefEqProofs only [go_sem, a10, a11, hoo] at n2 a20 a21 a22
 have L2 : h.le g2 := H2.le.trans zale l2
 repeat (first | rw [ko] | rw [kr] | simp -dsimp -implicitDefEqProofs only [go_sem, sQ1, sQ2, a20, a22, ce7, ce8])
 refine wz_intro (toMatrix_ok (F := fun j => F (j + 11)) (by omega)) ?_
 rintro _ g3 ⟨l3, ys3, b3, rfl, o3, bl3⟩
 obtain ⟨b3_1, s12, b3_2, s13, rfl, hb3, o3_1, o3_2⟩ := invMatrix o3
 have ce12 := OT.cell o3_1
 have ce13 := OT.cell o3_2
 have n3 := l3.n
 have a30 := l3.2 (hn h .mk) (by simp only [hn_set]; omega)
 have a31 := l3.2 (hn h .mk + 1) (by simp only [hn_set]; omega)
 have a32 := l3.2 (hn h .mk + 1 + 1) (by simp only [hn_set]; omega)
 simp -dsimp -implicitDefEqProofs only [go_sem, a20, a21, hoo] at n3 a30 a31 a32
 have L3 : h.le g3 := H2.le.trans zale l3
 repeat (first | rw [ko] | rw [kr] | simp -dsimp -implicitDefEqProofs only [go_sem, sQ1, sQ2, a30, a32, ce12, ce13])
 refine wz_intro (toMatrix_ok (F := fun j => F (j + 16)) (by omega)) ?_
 rintro _ g4 ⟨l4, ys4, b4, rfl, o4, bl4⟩
 obtain ⟨b4_1, s17, b4_2, s18, rfl, hb4, o4_1, o4_2⟩ := invMatrix o4
 have ce17 := OT.cell o4_1
 have ce18 := OT.cell o4_2
 have n4 := l4.n
 have a40 := l4.2 (hn h .mk) (by simp only [hn_set]; omega)
 have a41 := l4.2 (hn h .mk + 1) (by simp only [hn_set]; omega)
 have a42 := l4.2 (hn h .mk + 1 + 1) (by simp only [hn_set]; omega)
 simp -dsimp -implicitDefEqProofs only [go_sem, a30, a31, hoo] at n4 a40 a41 a42
 have L4 : h.le g4 := H2.le.trans zale l4
 repeat (first | rw [ko] | rw [kr] | simp -dsimp -implicitDefEqProofs only [go_sem, sQ1, sQ2, a40, a42, ce17, ce18])
 refine wz_intro (toIntS_new  (by omega)) ?_
 rintro s21 g5 ⟨l5, b5, o5, bl5⟩
 have ce21 := OT.cell o5
 have n5 := l5.n
 have a50 := l5.2 (hn h .mk) (by simp only [hn_set]; omega)
 have a51 := l5.2 (hn h .mk + 1) (by simp only [hn_set]; omega)
 have a52 := l5.2 (hn h .mk + 1 + 1) (by simp only [hn_set]; omega)
 simp -dsimp -implicitDefEqProofs only [go_sem, a40, a41, hoo] at n5 a50 a51 a52
 have L5 : h.le g5 := H2.le.trans zale l5
 repeat (first | rw [ko] | rw [kr] | simp -dsimp -implicitDefEqProofs only [go_sem, sQ1, a50, a52, ce21])
 refine wz_intro (toMatrix_ok (F := fun j => F (j + 22)) (by omega)) ?_
 rintro _ g6 ⟨l6, ys6, b6, rfl, o6, bl6⟩
 obtain ⟨b6_1, s23, b6_2, s24, rfl, hb6, o6_1, o6_2⟩ := invMatrix o6
 have ce23 := OT.cell o6_1
 have ce24 := OT.cell o6_2
 have n6 := l6.n
 have a60 := l6.2 (hn h .mk) (by simp only [hn_set]; omega)
 have a61 := l6.2 (hn h .mk + 1) (by simp only [hn_set]; omega)
 have a62 := l6.2 (hn h .mk + 1 + 1) (by simp only [hn_set]; omega)
 simp -dsimp -implicitDefEqProofs only [go_sem, a50, a51, hoo] at n6 a60 a61 a62
 have L6 : h.le g6 := H2.le.trans zale l6
 repeat (first | rw [ko] | rw [kr] | simp -dsimp -implicitDefEqProofs only [go_sem, sQ1, sQ2, a60, a62, ce23, ce24])
 refine wz_intro (toMatrix_ok (F := fun j => F (j + 27)) (by omega)) ?_
 rintro _ g7 ⟨l7, ys7, b7, rfl, o7, bl7⟩
 obtain ⟨b7_1, s28, b7_2, s29, rfl, hb7, o7_1, o7_2⟩ := invMatrix o7
 have ce28 := OT.cell o7_1
 have ce29 := OT.cell o7_2
 have n7 := l7.n
 have a70 := l7.2 (hn h .mk) (by simp only [hn_set]; omega)
 have a71 := l7.2 (hn h .mk + 1) (by simp only [hn_set]; omega)
 have a72 := l7.2 (hn h .mk + 1 + 1) (by simp only [hn_set]; omega)
 simp -dsimp -implicitDefEqProofs only [go_sem, a60, a61, hoo] at n7 a70 a71 a72
 have L7 : h.le g7 := H2.le.trans zale l7
 repeat (first | rw [ko] | rw [kr] | simp -dsimp -implicitDefEqProofs only [go_sem, sQ1, sQ2, a71, a72, ce0, ce2, ce3, ce7, ce8, ce12, ce13, ce17, ce18, ce21, ce23, ce24, ce28, ce29])
 refine ⟨zale, _, b0 ++ (b1_1 ++ (b1_2 ++ (b2_1 ++ (b2_2 ++ (b3_1 ++ (b3_2 ++ (b4_1 ++ (b4_2 ++ (b5 ++ (b6_1 ++ (b6_2 ++ (b7_1 ++ b7_2)))))))))))), rfl, outLayer (c := c) ?_ ?_ ?_ ?_ ?_ ?_ ?_ ?_ ?_ ?_ ?_ ?_ ?_ ?_, ?_⟩
 ·refine OT.frame o0 fun b hb => ?_
  have hbl := bl0.2 b (hb)
  simp only [hn_push] at hbl
  simp only [H2.set]
  rw [if_neg (by omega), if_neg (by omega)]
  rw [show g7.get b = _ from l7.2 b (by simp only [hn_set]; omega)]
  simp only [hg, H2.set]
  rw [if_neg (by omega)]
  rw [show g6.get b = _ from l6.2 b (by simp only [hn_set]; omega)]
  simp only [hg, H2.set]
  rw [if_neg (by omega)]
  rw [show g5.get b = _ from l5.2 b (by simp only [hn_set]; omega)]
  simp only [hg, H2.set]
  rw [if_neg (by omega)]
  rw [show g4.get b = _ from l4.2 b (by simp only [hn_set]; omega)]
  simp only [hg, H2.set]
  rw [if_neg (by omega)]
  rw [show g3.get b = _ from l3.2 b (by simp only [hn_set]; omega)]
  simp only [hg, H2.set]
  rw [if_neg (by omega)]
  rw [show g2.get b = _ from l2.2 b (by simp only [hn_set]; omega)]
  simp only [hg, H2.set]
  rw [if_neg (by omega)]
  rw [show g1.get b = _ from l1.2 b (by simp only [hn_set]; omega)]
  simp only [hg, H2.set]
  rw [if_neg (by omega)]
 ·refine OT.frame o1_1 fun b hb => ?_
  have hbl := bl1.2 b (by rw [hb1]; simp [hb])
  simp only [hn_set] at hbl
  simp only [H2.set]
  rw [if_neg (by omega), if_neg (by omega)]
  rw [show g7.get b = _ from l7.2 b (by simp only [hn_set]; omega)]
  simp only [hg, H2.set]
  rw [if_neg (by omega)]
  rw [show g6.get b = _ from l6.2 b (by simp only [hn_set]; omega)]
  simp only [hg, H2.set]
  rw [if_neg (by omega)]
  rw [show g5.get b = _ from l5.2 b (by simp only [hn_set]; omega)]
  simp only [hg, H2.set]
  rw [if_neg (by omega)]
  rw [show g4.get b = _ from l4.2 b (by simp only [hn_set]; omega)]
  simp only [hg, H2.set]
  rw [if_neg (by omega)]
  rw [show g3.get b = _ from l3.2 b (by simp only [hn_set]; omega)]
  simp only [hg, H2.set]
  rw [if_neg (by omega)]
  rw [show g2.get b = _ from l2.2 b (by simp only [hn_set]; omega)]
  simp only [hg, H2.set]
  rw [if_neg (by omega)]
 ·refine OT.frame o1_2 fun b hb => ?_
  have hbl := bl1.2 b (by rw [hb1]; simp [hb])
  simp only [hn_set] at hbl
  simp only [H2.set]
  rw [if_neg (by omega), if_neg (by omega)]
  rw [show g7.get b = _ from l7.2 b (by simp only [hn_set]; omega)]
  simp only [hg, H2.set]
  rw [if_neg (by omega)]
  rw [show g6.get b = _ from l6.2 b (by simp only [hn_set]; omega)]
  simp only [hg, H2.set]
  rw [if_neg (by omega)]
  rw [show g5.get b = _ from l5.2 b (by simp only [hn_set]; omega)]
  simp only [hg, H2.set]
  rw [if_neg (by omega)]
  rw [show g4.get b = _ from l4.2 b (by simp only [hn_set]; omega)]
  simp only [hg, H2.set]
  rw [if_neg (by omega)]
  rw [show g3.get b = _ from l3.2 b (by simp only [hn_set]; omega)]
  simp only [hg, H2.set]
  rw [if_neg (by omega)]
  rw [show g2.get b = _ from l2.2 b (by simp only [hn_set]; omega)]
  simp only [hg, H2.set]
  rw [if_neg (by omega)]
 ·refine OT.frame o2_1 fun b hb => ?_
  have hbl := bl2.2 b (by rw [hb2]; simp [hb])
  simp only [hn_set] at hbl
  simp only [H2.set]
  rw [if_neg (by omega), if_neg (by omega)]
  rw [show g7.get b = _ from l7.2 b (by simp only [hn_set]; omega)]
  simp only [hg, H2.set]
  rw [if_neg (by omega)]
  rw [show g6.get b = _ from l6.2 b (by simp only [hn_set]; omega)]
  simp only [hg, H2.set]
  rw [if_neg (by omega)]
  rw [show g5.get b = _ from l5.2 b (by simp only [hn_set]; omega)]
  simp only [hg, H2.set]
  rw [if_neg (by omega)]
  rw [show g4.get b = _ from l4.2 b (by simp only [hn_set]; omega)]
  simp only [hg, H2.set]
  rw [if_neg (by omega)]
  rw [show g3.get b = _ from l3.2 b (by simp only [hn_set]; omega)]
  simp only [hg, H2.set]
  rw [if_neg (by omega)]
 ·refine OT.frame o2_2 fun b hb => ?_
  have hbl := bl2.2 b (by rw [hb2]; simp [hb])
  simp only [hn_set] at hbl
  simp only [H2.set]
  rw [if_neg (by omega), if_neg (by omega)]
  rw [show g7.get b = _ from l7.2 b (by simp only [hn_set]; omega)]
  simp only [hg, H2.set]
  rw [if_neg (by omega)]
  rw [show g6.get b = _ from l6.2 b (by simp only [hn_set]; omega)]
  simp only [hg, H2.set]
  rw [if_neg (by omega)]
  rw [show g5.get b = _ from l5.2 b (by simp only [hn_set]; omega)]
  simp only [hg, H2.set]
  rw [if_neg (by omega)]
  rw [show g4.get b = _ from l4.2 b (by simp only [hn_set]; omega)]
  simp only [hg, H2.set]
  rw [if_neg (by omega)]
  rw [show g3.get b = _ from l3.2 b (by simp only [hn_set]; omega)]
  simp only [hg, H2.set]
  rw [if_neg (by omega)]
 ·refine OT.frame o3_1 fun b hb => ?_
  have hbl := bl3.2 b (by rw [hb3]; simp [hb])
  simp only [hn_set] at hbl
  simp only [H2.set]
  rw [if_neg (by omega), if_neg (by omega)]
  rw [show g7.get b = _ from l7.2 b (by simp only [hn_set]; omega)]
  simp only [hg, H2.set]
  rw [if_neg (by omega)]
  rw [show g6.get b = _ from l6.2 b (by simp only [hn_set]; omega)]
  simp only [hg, H2.set]
  rw [if_neg (by omega)]
  rw [show g5.get b = _ from l5.2 b (by simp only [hn_set]; omega)]
  simp only [hg, H2.set]
  rw [if_neg (by omega)]
  rw [show g4.get b = _ from l4.2 b (by simp only [hn_set]; omega)]
  simp only [hg, H2.set]
  rw [if_neg (by omega)]
 ·refine OT.frame o3_2 fun b hb => ?_
  have hbl := bl3.2 b (by rw [hb3]; simp [hb])
  simp only [hn_set] at hbl
  simp only [H2.set]
  rw [if_neg (by omega), if_neg (by omega)]
  rw [show g7.get b = _ from l7.2 b (by simp only [hn_set]; omega)]
  simp only [hg, H2.set]
  rw [if_neg (by omega)]
  rw [show g6.get b = _ from l6.2 b (by simp only [hn_set]; omega)]
  simp only [hg, H2.set]
  rw [if_neg (by omega)]
  rw [show g5.get b = _ from l5.2 b (by simp only [hn_set]; omega)]
  simp only [hg, H2.set]
  rw [if_neg (by omega)]
  rw [show g4.get b = _ from l4.2 b (by simp only [hn_set]; omega)]
  simp only [hg, H2.set]
  rw [if_neg (by omega)]
 ·refine OT.frame o4_1 fun b hb => ?_
  have hbl := bl4.2 b (by rw [hb4]; simp [hb])
  simp only [hn_set] at hbl
  simp only [H2.set]
  rw [if_neg (by omega), if_neg (by omega)]
  rw [show g7.get b = _ from l7.2 b (by simp only [hn_set]; omega)]
  simp only [hg, H2.set]
  rw [if_neg (by omega)]
  rw [show g6.get b = _ from l6.2 b (by simp only [hn_set]; omega)]
  simp only [hg, H2.set]
  rw [if_neg (by omega)]
  rw [show g5.get b = _ from l5.2 b (by simp only [hn_set]; omega)]
  simp only [hg, H2.set]
  rw [if_neg (by omega)]
 ·refine OT.frame o4_2 fun b hb => ?_
  have hbl := bl4.2 b (by rw [hb4]; simp [hb])
  simp only [hn_set] at hbl
  simp only [H2.set]
  rw [if_neg (by omega), if_neg (by omega)]
  rw [show g7.get b = _ from l7.2 b (by simp only [hn_set]; omega)]
  simp only [hg, H2.set]
  rw [if_neg (by omega)]
  rw [show g6.get b = _ from l6.2 b (by simp only [hn_set]; omega)]
  simp only [hg, H2.set]
  rw [if_neg (by omega)]
  rw [show g5.get b = _ from l5.2 b (by simp only [hn_set]; omega)]
  simp only [hg, H2.set]
  rw [if_neg (by omega)]
 ·refine OT.frame o5 fun b hb => ?_
  have hbl := bl5.2 b (hb)
  simp only [hn_set] at hbl
  simp only [H2.set]
  rw [if_neg (by omega), if_neg (by omega)]
  rw [show g7.get b = _ from l7.2 b (by simp only [hn_set]; omega)]
  simp only [hg, H2.set]
  rw [if_neg (by omega)]
  rw [show g6.get b = _ from l6.2 b (by simp only [hn_set]; omega)]
  simp only [hg, H2.set]
  rw [if_neg (by omega)]
 ·refine OT.frame o6_1 fun b hb => ?_
  have hbl := bl6.2 b (by rw [hb6]; simp [hb])
  simp only [hn_set] at hbl
  simp only [H2.set]
  rw [if_neg (by omega), if_neg (by omega)]
  rw [show g7.get b = _ from l7.2 b (by simp only [hn_set]; omega)]
  simp only [hg, H2.set]
  rw [if_neg (by omega)]
 ·refine OT.frame o6_2 fun b hb => ?_
  have hbl := bl6.2 b (by rw [hb6]; simp [hb])
  simp only [hn_set] at hbl
  simp only [H2.set]
  rw [if_neg (by omega), if_neg (by omega)]
  rw [show g7.get b = _ from l7.2 b (by simp only [hn_set]; omega)]
  simp only [hg, H2.set]
  rw [if_neg (by omega)]
 ·refine OT.frame o7_1 fun b hb => ?_
  have hbl := bl7.2 b (by rw [hb7]; simp [hb])
  simp only [hn_set] at hbl
  simp only [H2.set]
  rw [if_neg (by omega), if_neg (by omega)]
 ·refine OT.frame o7_2 fun b hb => ?_
  have hbl := bl7.2 b (by rw [hb7]; simp [hb])
  simp only [hn_set] at hbl
  simp only [H2.set]
  rw [if_neg (by omega), if_neg (by omega)]
 ·simp only [hn_set]
  have m0 := bl0
  simp only [hn_push] at m0
  have m1 := bl1
  simp only [hn_set] at m1
  rw [hb1] at m1
  have m2 := bl2
  simp only [hn_set] at m2
  rw [hb2] at m2
  have m3 := bl3
  simp only [hn_set] at m3
  rw [hb3] at m3
  have m4 := bl4
  simp only [hn_set] at m4
  rw [hb4] at m4
  have m5 := bl5
  simp only [hn_set] at m5
  have m6 := bl6
  simp only [hn_set] at m6
  rw [hb6] at m6
  have m7 := bl7
  simp only [hn_set] at m7
  rw [hb7] at m7
  have := ((Bl.append m0 (Bl.append m1 (Bl.append m2 (Bl.append m3 (Bl.append m4 (Bl.append m5 (Bl.append m6 m7 (by omega) (by omega)) (by omega) (by omega)) (by omega) (by omega)) (by omega) (by omega)) (by omega) (by omega)) (by omega) (by omega)) (by omega) (by omega))).wide (N' := hn h .mk) (by omega) (Nat.le_refl _)
  simpa only [List.append_assoc] using this
end Go.Bi
end
