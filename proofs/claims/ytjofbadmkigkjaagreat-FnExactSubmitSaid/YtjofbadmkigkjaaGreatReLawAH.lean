/- Own lemmas that the theorem of this claim needs: the abstract machine and walks of functions. -/
import Derived.Test.YtjofbadmkigkjaaGreatReLawAG
set_option linter.unusedSimpArgs false
set_option linter.unusedVariables false
open Nat renaming reduceBEq → rq1, reduceAdd → rq2, reduceLeDiff → rq3, reduceMul → rq4
open Int renaming reduceLE → rq5, reduceLT → rq6, reduceBEq → rq7
section
set_option maxRecDepth 20000
namespace Go.Bi
open Go.Proofs
open Go.Ai (wrap_i64 wrap_u8)
variable {W0 : World}
theorem hoo (x : Nat) : (x == x) = true := by simp
theorem nat_nn (k : Nat) : ((0 : Int) ≤ (k : Int)) = True := eq_true (Int.natCast_nonneg k)
theorem wrap_succ {k n : Nat} (hk : k < n) (hn : n ≤ 9223372036854775807) : IntKind.i64.wrap ((k : Int) + 1) = ((k + 1 : Nat) : Int) := by rw [wrap_i64] <;> omega
theorem hbo (b : ByteArray) : (b.toList == b.toList) = true := by simp
attribute [go_sem] hoo hbo nat_nn Int.toNat_natCast eq_self not_true_eq_false Int.natCast_zero true_and and_true
variable {P : Program} {K : KT}
def isU8 : Option Go.Ai.Cls → Bool
 | some (.int .u8) => true
 | _ => false
theorem isU8_t : isU8 (some (.int .u8)) = true := rfl
def strO (o : Option (List UInt8)) (h : H2) : Option (X × H2) := match o with | some bs => some (.raw (.string ⟨bs.toArray⟩), h) | none => none
theorem strO_some {bs : List UInt8} {h : H2} : strO (some bs) h = some (.raw (.string ⟨bs.toArray⟩), h) := rfl
theorem cv_src {s d : TypeId} {h : H2} {x : X} {n : Nat} {l : List X} (hs : Go.Ai.cls? P s = some .sl) (hd : Go.Ai.cls? P d = some .str) (he : (Go.Ai.elt? P s).isSome = true) (hz : (Go.Ai.eltZ (Go.Ai.elt? P s) == 1) = true) (hc : isU8 (Go.Ai.cls? P (Go.Ai.eltT (Go.Ai.elt? P s))) = true)
  (hx : srcX h 1 x = some (n, l)) : convz P h s d x .mk = strO (bytesX l) h := by
 simp only [convz, convX, hs, hd]
 cases hq : Go.Ai.elt? P s with
 | none => rw [hq] at he; cases he
 | some q =>
  obtain ⟨u, z, b⟩ := q
  rw [hq] at hz hc
  simp only [Go.Ai.eltZ, beq_iff_eq] at hz
  subst hz
  simp only [hx]
  simp only [Go.Ai.eltT] at hc
  cases hu : Go.Ai.cls? P u with
  | none => rw [hu] at hc; cases hc
  | some c =>
   rw [hu] at hc
   cases c <;> try cases hc
   rename_i k
   cases k <;> try cases hc
   cases bytesX l <;> rfl
theorem cv_bytes {s d : TypeId} {h : H2} {f : Adr} {es : List (List T)} (hs : Go.Ai.cls? P s = some .sl) (hd : Go.Ai.cls? P d = some .str) (he : (Go.Ai.elt? P s).isSome = true) (hz : (Go.Ai.eltZ (Go.Ai.elt? P s) == 1) = true) (hc : isU8 (Go.Ai.cls? P (Go.Ai.eltT (Go.Ai.elt? P s))) = true) :
    convz P h s d (.sl f 1 es) .mk = strO (bytesX (flatX f 0 es)) h := cv_src hs hd he hz hc rfl
theorem flat_nil {f : Adr} {i : Nat} : flatX f i [] = [] := rfl
theorem flat_cons {f : Adr} {i : Nat} {e : List T} {r : List (List T)} : flatX f i (e :: r) = mkL (under f i) 0 e ++ flatX f (i + 1) r := rfl
def byO (b : UInt8) (o : Option (List UInt8)) : Option (List UInt8) := match o with | some r => some (b :: r) | none => none
theorem byO_some {b : UInt8} {r : List UInt8} : byO b (some r) = some (b :: r) := rfl
theorem by_nil : bytesX [] = some [] := rfl
theorem by_cons {x : Int} {l : List X} : bytesX (.raw (.int .u8 x) :: l) = byO (UInt8.ofNat x.toNat) (bytesX l) := by simp only [bytesX, Go.Ai.byteV, byO]; cases bytesX l <;> rfl
attribute [go_sem] isU8_t strO_some cv_bytes flat_nil flat_cons byO_some by_nil by_cons List.cons_append List.nil_append
def inI (x a b : Int) : Bool := decide (a ≤ x) && decide (x ≤ b)
theorem l01In_ok {x a b : Int} {h : H2} : WC2 Tryz.prog W0 52 [.raw (.int .i64 x), .raw (.int .i64 a), .raw (.int .i64 b)] h (fun v h' => v = .raw (.bool (inI x a b)) ∧ h' = h) := by
 refine begins [[0, 1, 2], [0, 1, 2]] Tryz.func52 rfl (rs := [.tmp 6]) rfl rfl ?_
 intro wf
 repeat (first | rw [ko] | rw [kr] | simp -dsimp -implicitDefEqProofs only [go_sem, rq1])
 refine gz_dec (fun h1 => ?_) (fun h1 => ?_)
 ·repeat (first | rw [ko] | rw [kr] | simp -dsimp -implicitDefEqProofs only [go_sem, rq1, h1])
  exact ⟨by simp [inI, h1], rfl⟩
 ·repeat (first | rw [ko] | rw [kr] | simp -dsimp -implicitDefEqProofs only [go_sem, h1])
  exact ⟨by simp [inI, h1], rfl⟩
theorem in_ok {x a b : Int} {h : H2} : WC2 Tryz.prog W0 49 [.raw (.int .i64 x), .raw (.int .i64 a), .raw (.int .i64 b)] h (fun v h' => v = .raw (.bool (inI x a b)) ∧ h' = h) := by
 refine begins [[0, 1, 2], [0, 1, 2]] Tryz.func49 rfl (rs := [.tmp 6]) rfl rfl ?_
 intro wf
 repeat (first | rw [ko] | rw [kr] | simp -dsimp -implicitDefEqProofs only [go_sem, rq1])
 refine gz_dec (fun h1 => ?_) (fun h1 => ?_)
 ·repeat (first | rw [ko] | rw [kr] | simp -dsimp -implicitDefEqProofs only [go_sem, rq1, h1])
  exact ⟨by simp [inI, h1], rfl⟩
 ·repeat (first | rw [ko] | rw [kr] | simp -dsimp -implicitDefEqProofs only [go_sem, h1])
  exact ⟨by simp [inI, h1], rfl⟩
theorem indexI_ok {F : FuncId} {p : Int → Bool} {caps : List Value} {f : Adr} {ss : List Int} {h : H2} (hn0 : ss.length ≤ 9223372036854775807)
  (hf : ∀ s, WC2 Tryz.prog W0 F ([.raw (.int .i64 s)] ++ caps.map .raw) h (fun v h' => v = .raw (.bool (p s)) ∧ h' = h)) :
  WC2 Tryz.prog W0 214 [.sl f 1 (ints ss), .raw (.func (.func F) #[] caps.toArray)] h (fun v h' => (∃ k : Int, v = .raw (.int .i64 k) ∧ decide (0 ≤ k) = ss.any p) ∧ h' = h) := by
 refine begins [[0, 1], [0, 1], [0, 1, 7, 8], [0, 1, 7, 8], [0, 1, 5, 7, 8], [5], [0, 1, 7, 8], []] Tryz.func214 rfl (rs := [.tmp 4]) rfl rfl ?_
 intro wf
 repeat (first | rw [ko] | rw [kr] | simp -dsimp -implicitDefEqProofs only [go_sem])
 refine lz_intro (fun m e h' => h' = h ∧ look e 0 .mk = .sl f 1 (ints ss) ∧ look e 1 .mk = .raw (.func (.func F) #[] caps.toArray) ∧ look e 7 .mk = .raw (.int .i64 ss.length) ∧ ∃ k : Nat, look e 8 .mk = .raw (.int .i64 k) ∧ m + k = ss.length ∧ ∀ j : Nat, j < k → p (ss.getD j default) = false) ss.length ?_ ?_
 ·refine ⟨rfl, ?_, ?_, ?_, 0, ?_, by omega, fun j hj => by omega⟩ <;> simp -dsimp -implicitDefEqProofs only [go_sem, rq1, Int.natCast_zero]
 ·rintro m e h ⟨rfl, e0, e1, e7, k, e8, hk, hpre⟩
  repeat (first | rw [ko] | rw [kr] | simp -dsimp -implicitDefEqProofs only [go_sem, e0, e1, e7, e8])
  refine gz_dec (fun h2 => ?_) (fun h2 => ?_)
  ·have h3 : k < ss.length := by omega
   repeat (first | rw [ko] | rw [kr] | simp -dsimp -implicitDefEqProofs only [go_sem, rq1, nat_nn, Int.toNat_natCast, h3])
   refine wz_intro (hf _) ?_
   rintro _ h' ⟨rfl, rfl⟩
   repeat (first | rw [ko] | rw [kr] | simp -dsimp -implicitDefEqProofs only [go_sem])
   refine gz_intro (fun h4 => ?_) (fun h4 => ?_)
   ·repeat (first | rw [ko] | rw [kr] | simp -dsimp -implicitDefEqProofs only [go_sem, rq1])
    refine ⟨⟨_, rfl, ?_⟩, rfl⟩
    have : ss.any p = true := List.any_eq_true.2 ⟨_, List.getElem_mem h3, by rw [List.getD_eq_getElem?_getD, List.getElem?_eq_getElem h3] at h4; exact h4⟩
    rw [this]; simp
   ·repeat (first | rw [ko] | rw [kr] | simp -dsimp -implicitDefEqProofs only [go_sem, rq1, wrap_succ h3 hn0])
    refine ⟨m - 1, by omega, rfl, ?_, ?_, ?_, k + 1, ?_, by omega, ?_⟩
    ·simp -dsimp -implicitDefEqProofs only [go_sem, rq1]
    ·simp -dsimp -implicitDefEqProofs only [go_sem, rq1]
    ·simp -dsimp -implicitDefEqProofs only [go_sem, rq1]
    ·simp -dsimp -implicitDefEqProofs only [go_sem]
    ·intro j hj
     by_cases hji : j = k
     ·subst hji; exact h4
     ·exact hpre j (by omega)
  ·repeat (first | rw [ko] | rw [kr] | simp -dsimp -implicitDefEqProofs only [go_sem])
   refine ⟨⟨_, rfl, ?_⟩, rfl⟩
   have : ss.any p = false := by
    rw [List.any_eq_false]
    intro x hx
    obtain ⟨j, hj, rfl⟩ := List.getElem_of_mem hx
    have := hpre j (by omega)
    rw [List.getD_eq_getElem?_getD, List.getElem?_eq_getElem hj] at this
    simpa using this
   rw [this]; rfl
end Go.Bi
end
section
set_option maxRecDepth 20000
namespace Go.Bi
open Go.Proofs
open Go.Ai (wrap_i64 wrap_u8)
variable {W0 : World}
variable {P : Program} {D : Nat → Option (List Nat)} {e : E2} {K : KT}
theorem make_intro {h : H2} {t u z y : Nat} {zs : List Value} {l : Int} (he : Ai.elt? P t = some (u, z, y)) (hz : Ai.zr? P u = some zs) (h1 : zs.length = z ∧ 0 < z) (h2 : 0 ≤ l ∧ l.toNat * (y + 1) ≤ Ai.most)
  (hk : kz K (.raw (.slice (some ⟨hn h .mk, 0, none⟩) l.toNat l.toNat)) (h.push ⟨z, (Ai.repL l.toNat zs).map .raw⟩) .mk) : az (makez P h t (.raw (.int .i64 l)) (.raw (.int .i64 l)) .mk) K .mk := by
 have : makez P h t (.raw (.int .i64 l)) (.raw (.int .i64 l)) .mk = some (.raw (.slice (some ⟨h.n, 0, none⟩) l.toNat l.toNat), h.push ⟨z, (Ai.repL l.toNat zs).map .raw⟩) := by
  simp only [makez, makeSliceX, he, hz]
  rw [if_pos ⟨h1.1, h1.2, trivial, h2.1, h2.2⟩]
 rw [this]; exact hk
theorem wrt_set {cs : List X} {o : Nat} {v : X} (ho : o < cs.length) : wrtL cs o [v] = some (cs.set o v) := by
 simp only [wrtL, List.length_cons, List.length_nil]
 rw [if_pos (by omega)]
 congr 1
 rw [List.set_eq_take_append_cons_drop, if_pos ho]
 simp
theorem H2.le_push1 (h : H2) (k : OB) : h.le (h.push k) := le_push (H2.le.refl h)
theorem set_push {h : H2} {k k' : OB} : (h.push k).set (hn h .mk) k' = h.push k' := by
 unfold H2.set H2.push hn; congr 1; funext x; by_cases hx : x = h.n <;> simp [hx]
theorem set_set {h : H2} {b : Nat} {k k' : OB} : (h.set b k).set b k' = h.set b k' := by
 unfold H2.set; congr 1; funext x; by_cases hx : x = b <;> simp [hx]
def eS (s : ByteArray) : List T := [.v (.string s)]
theorem eS_def {s : ByteArray} : eS s = [.v (.string s)] := rfl
def strs (ss : List ByteArray) : List (List T) := ss.map eS
theorem strs_len {ss : List ByteArray} : (strs ss).length = ss.length := by simp [strs]
theorem strs_el {ss : List ByteArray} {i : Nat} (hi : i < ss.length) : el (strs ss) i = eS (ss.getD i default) := el_map hi
attribute [go_sem] eS_def strs_len strs_el set_push set_set
theorem szIntS_ok {f : Adr} {zs : List Int} {left : Int} {h : H2} (hn0 : zs.length ≤ 9223372036854775807) (hl : 0 ≤ left ∧ left ≤ 1048576) : WC2 Tryz.prog W0 74 [.sl f 1 (ints zs), .raw (.int .i64 left)] h (fun v h' => (∃ k : Int, v = .raw (.int .i64 k) ∧ (0 ≤ k → (zs.length : Int) + k ≤ left)) ∧ h' = h) := by
 have hw : IntKind.i64.wrap (left - zs.length) = left - zs.length := by rw [wrap_i64] <;> omega
 refine begins [[0, 1], [0, 1], [1], [], [1]] Tryz.func74 rfl (rs := [.tmp 4]) rfl rfl ?_
 intro wf
 repeat (first | rw [ko] | rw [kr] | simp -dsimp -implicitDefEqProofs only [go_sem, rq1, hw])
 refine gz_dec (fun h1 => ?_) (fun h1 => ?_)
 ·repeat (first | rw [ko] | rw [kr] | simp -dsimp -implicitDefEqProofs only [go_sem])
  exact ⟨⟨_, rfl, fun hh => by omega⟩, rfl⟩
 ·repeat (first | rw [ko] | rw [kr] | simp -dsimp -implicitDefEqProofs only [go_sem, rq1])
  exact ⟨⟨_, rfl, fun hh => by omega⟩, rfl⟩
theorem toIntS_ok {f : Adr} {zs : List Int} {h : H2} (hn0 : zs.length ≤ 1048576) :
  WC2 Tryz.prog W0 38 [.sl f 1 (ints zs)] h (fun v h' => h.le h' ∧ Own (hn h .mk) h' v 1 zs.length (zs.map (fun (z : Int) => X.raw (.int .i64 z)))) := by
 refine begins [[0], [0], [0, 3], [0, 3, 4], [0, 3, 4], [0, 3, 4], [3]] Tryz.func38 rfl (rs := [.tmp 2]) rfl rfl ?_
 intro wf
 repeat (first | rw [ko] | rw [kr] | simp -dsimp -implicitDefEqProofs only [go_sem])
 refine make_intro Ai.ty_el27 Ai.ty_zr3 (by decide) ⟨by omega, by simp only [Int.toNat_natCast]; have : Ai.most = 1099511627776 := rfl; omega⟩ ?_
 repeat (first | rw [ko] | rw [kr] | simp -dsimp -implicitDefEqProofs only [go_sem, rq1])
 refine lz_keep [0, 3] (fun m e h' => ∃ (k : Nat) (cs : List X), look e 4 .mk = .raw (.int .i64 k) ∧ m + k = zs.length ∧ h' = h.push ⟨1, cs⟩ ∧ cs.length = zs.length ∧ ∀ j : Nat, j < k → cs[j]? = (zs.map (fun (z : Int) => X.raw (.int .i64 z)))[j]?) zs.length ?_ ?_
 ·exact ⟨0, _, by simp -dsimp -implicitDefEqProofs only [go_sem, Int.natCast_zero], by omega, rfl, by simp [Ai.rep_one], fun j hj => by omega⟩
 ·rintro m e h' hks ⟨k, cs, e4, hk, rfl, hcs, hpre⟩
  simp -dsimp -implicitDefEqProofs only [go_sem] at hks
  repeat (first | rw [ko] | rw [kr] | simp -dsimp -implicitDefEqProofs only [go_sem, rq1, hks, e4])
  refine gz_dec (fun h2 => ?_) (fun h2 => ?_)
  ·have h3 : k < zs.length := by omega
   have hw2 : wrtL cs k [.raw (.int .i64 (zs.getD k default))] = some (cs.set k (.raw (.int .i64 (zs.getD k default)))) := wrt_set (by omega)
   have hi2 : (0 : Int) ≤ (k : Int) ∧ (k : Int) < (zs.length : Int) := by omega
   repeat (first | rw [ko] | rw [kr] | simp -dsimp -implicitDefEqProofs only [go_sem, rq1, Int.toNat_natCast, h3, hoo, hw2, hi2, wrap_succ h3 (by omega)])
   refine nx_keep (m - 1) (by omega) zsm ⟨k + 1, _, zsm, by omega, rfl, by simpa using hcs, ?_⟩
   intro j hj
   by_cases hji : j = k
   ·subst hji
    rw [List.getElem?_set_self (by omega), List.getElem?_map, List.getD_eq_getElem?_getD, List.getElem?_eq_getElem h3]; rfl
   ·rw [List.getElem?_set_ne (fun e => hji e.symm)]
    exact hpre j (by omega)
  ·repeat (first | rw [ko] | rw [kr] | simp -dsimp -implicitDefEqProofs only [go_sem, rq1])
   refine ⟨H2.le_push1 h _, ?_⟩
   have : cs = zs.map (fun (z : Int) => X.raw (.int .i64 z)) := by
    apply List.ext_getElem?
    intro j
    by_cases hj : j < k
    ·exact hpre j hj
    ·rw [List.getElem?_eq_none (by omega), List.getElem?_eq_none (by simp; omega)]
   rw [this]
   exact Own.new (Nat.le_refl _) (by simp)
theorem eqIntS_ok {f f' : Adr} {zs : List Int} {h : H2} (hn0 : zs.length ≤ 9223372036854775807) :
  WC2 Tryz.prog W0 41 [.sl f 1 (ints zs), .sl f' 1 (ints zs)] h (fun v h' => v = .raw (.bool true) ∧ h' = h) := by
 refine begins [[0, 1], [0, 1], [], [0, 1], [0, 1, 5], [0, 1, 5], [0, 1, 5], [], []] Tryz.func41 rfl (rs := [.tmp 4]) rfl rfl ?_
 intro wf
 repeat (first | rw [ko] | rw [kr] | simp -dsimp -implicitDefEqProofs only [go_sem, rq1])
 refine lz_keep [0, 1] (fun m e h' => h' = h ∧ ∃ k : Nat, look e 5 .mk = .raw (.int .i64 k) ∧ m + k = zs.length) zs.length ?_ ?_
 ·exact ⟨rfl, 0, by simp -dsimp -implicitDefEqProofs only [go_sem, Int.natCast_zero], by omega⟩
 ·rintro m e h hks ⟨rfl, k, e5, hk⟩
  simp -dsimp -implicitDefEqProofs only [go_sem, rq1] at hks
  repeat (first | rw [ko] | rw [kr] | simp -dsimp -implicitDefEqProofs only [go_sem, rq1, hks, e5])
  refine gz_dec (fun h2 => ?_) (fun h2 => ?_)
  ·have h3 : k < zs.length := by omega
   repeat (first | rw [ko] | rw [kr] | simp -dsimp -implicitDefEqProofs only [go_sem, rq1])
   refine dq_intro [(0, []), (1, []), (2, []), (3, []), (4, []), (5, []), (6, []), (7, []), (8, [])] (by kernel_rfl) ?_
   repeat (first | rw [ko] | rw [kr] | simp -dsimp -implicitDefEqProofs only [go_sem, rq1, nat_nn, Int.toNat_natCast, h3, hoo, not_true_eq_false, wrap_succ h3 hn0])
   exact nx_keep (m - 1) (by omega) zsm ⟨rfl, k + 1, zsm, by omega⟩
  ·repeat (first | rw [ko] | rw [kr] | simp -dsimp -implicitDefEqProofs only [go_sem])
   exact ⟨rfl, rfl⟩
theorem toStringS_ok {f : Adr} {zs : List ByteArray} {h : H2} (hn0 : zs.length ≤ 1048576) :
  WC2 Tryz.prog W0 112 [.sl f 1 (strs zs)] h (fun v h' => h.le h' ∧ Own (hn h .mk) h' v 1 zs.length (zs.map (fun (z : ByteArray) => X.raw (.string z)))) := by
 refine begins [[0], [0], [0, 3], [0, 3, 4], [0, 3, 4], [0, 3, 4], [3]] Tryz.func112 rfl (rs := [.tmp 2]) rfl rfl ?_
 intro wf
 repeat (first | rw [ko] | rw [kr] | simp -dsimp -implicitDefEqProofs only [go_sem])
 refine make_intro Ai.ty_el47 Ai.ty_zr9 (by decide) ⟨by omega, by simp only [Int.toNat_natCast]; have : Ai.most = 1099511627776 := rfl; omega⟩ ?_
 repeat (first | rw [ko] | rw [kr] | simp -dsimp -implicitDefEqProofs only [go_sem, rq1])
 refine lz_keep [0, 3] (fun m e h' => ∃ (k : Nat) (cs : List X), look e 4 .mk = .raw (.int .i64 k) ∧ m + k = zs.length ∧ h' = h.push ⟨1, cs⟩ ∧ cs.length = zs.length ∧ ∀ j : Nat, j < k → cs[j]? = (zs.map (fun (z : ByteArray) => X.raw (.string z)))[j]?) zs.length ?_ ?_
 ·exact ⟨0, _, by simp -dsimp -implicitDefEqProofs only [go_sem, Int.natCast_zero], by omega, rfl, by simp [Ai.rep_one], fun j hj => by omega⟩
 ·rintro m e h' hks ⟨k, cs, e4, hk, rfl, hcs, hpre⟩
  simp -dsimp -implicitDefEqProofs only [go_sem] at hks
  repeat (first | rw [ko] | rw [kr] | simp -dsimp -implicitDefEqProofs only [go_sem, rq1, hks, e4])
  refine gz_dec (fun h2 => ?_) (fun h2 => ?_)
  ·have h3 : k < zs.length := by omega
   have hw2 : wrtL cs k [.raw (.string (zs.getD k default))] = some (cs.set k (.raw (.string (zs.getD k default)))) := wrt_set (by omega)
   have hi2 : (0 : Int) ≤ (k : Int) ∧ (k : Int) < (zs.length : Int) := by omega
   repeat (first | rw [ko] | rw [kr] | simp -dsimp -implicitDefEqProofs only [go_sem, rq1, Int.toNat_natCast, h3, hoo, hw2, hi2, wrap_succ h3 (by omega)])
   refine nx_keep (m - 1) (by omega) zsm ⟨k + 1, _, zsm, by omega, rfl, by simpa using hcs, ?_⟩
   intro j hj
   by_cases hji : j = k
   ·subst hji
    rw [List.getElem?_set_self (by omega), List.getElem?_map, List.getD_eq_getElem?_getD, List.getElem?_eq_getElem h3]; rfl
   ·rw [List.getElem?_set_ne (fun e => hji e.symm)]
    exact hpre j (by omega)
  ·repeat (first | rw [ko] | rw [kr] | simp -dsimp -implicitDefEqProofs only [go_sem, rq1])
   refine ⟨H2.le_push1 h _, ?_⟩
   have : cs = zs.map (fun (z : ByteArray) => X.raw (.string z)) := by
    apply List.ext_getElem?
    intro j
    by_cases hj : j < k
    ·exact hpre j hj
    ·rw [List.getElem?_eq_none (by omega), List.getElem?_eq_none (by simp; omega)]
   rw [this]
   exact Own.new (Nat.le_refl _) (by simp)
theorem eqStringS_ok {f f' : Adr} {zs : List ByteArray} {h : H2} (hn0 : zs.length ≤ 9223372036854775807) :
  WC2 Tryz.prog W0 114 [.sl f 1 (strs zs), .sl f' 1 (strs zs)] h (fun v h' => v = .raw (.bool true) ∧ h' = h) := by
 refine begins [[0, 1], [0, 1], [], [0, 1], [0, 1, 5], [0, 1, 5], [0, 1, 5], [], []] Tryz.func114 rfl (rs := [.tmp 4]) rfl rfl ?_
 intro wf
 repeat (first | rw [ko] | rw [kr] | simp -dsimp -implicitDefEqProofs only [go_sem, rq1])
 refine lz_keep [0, 1] (fun m e h' => h' = h ∧ ∃ k : Nat, look e 5 .mk = .raw (.int .i64 k) ∧ m + k = zs.length) zs.length ?_ ?_
 ·exact ⟨rfl, 0, by simp -dsimp -implicitDefEqProofs only [go_sem, Int.natCast_zero], by omega⟩
 ·rintro m e h hks ⟨rfl, k, e5, hk⟩
  simp -dsimp -implicitDefEqProofs only [go_sem, rq1] at hks
  repeat (first | rw [ko] | rw [kr] | simp -dsimp -implicitDefEqProofs only [go_sem, rq1, hks, e5])
  refine gz_dec (fun h2 => ?_) (fun h2 => ?_)
  ·have h3 : k < zs.length := by omega
   repeat (first | rw [ko] | rw [kr] | simp -dsimp -implicitDefEqProofs only [go_sem, rq1])
   refine dq_intro [(0, []), (1, []), (2, []), (3, []), (4, []), (5, []), (6, []), (7, []), (8, [])] (by kernel_rfl) ?_
   repeat (first | rw [ko] | rw [kr] | simp -dsimp -implicitDefEqProofs only [go_sem, rq1, nat_nn, Int.toNat_natCast, h3, hoo, hbo, wrap_succ h3 hn0])
   exact nx_keep (m - 1) (by omega) zsm ⟨rfl, k + 1, zsm, by omega⟩
  ·repeat (first | rw [ko] | rw [kr] | simp -dsimp -implicitDefEqProofs only [go_sem])
   exact ⟨rfl, rfl⟩
def marksI (k : Int) (n : Nat) : List Int := (List.range n).map fun (j : Nat) => k + (j : Int)
theorem marks_len {k : Int} {n : Nat} : (marksI k n).length = n := by simp [marksI]
theorem marks_get {k : Int} {n j : Nat} (hj : j < n) : (marksI k n).getD j default = k + j := by
 rw [List.getD_eq_getElem?_getD, marksI, List.getElem?_map, List.getElem?_range hj]; rfl
theorem heldIntS_ok {f : Adr} {n : Nat} {k0 : Int} {h : H2} (hn0 : n ≤ 9223372036854775807) (hk0 : 0 ≤ k0 ∧ k0 + n ≤ 9223372036854775807) :
  WC2 Tryz.prog W0 177 [.sl f 1 (ints (marksI k0 n)), .raw (.int .i64 k0)] h (fun v h' => v = .raw (.int .i64 (k0 + n)) ∧ h' = h) := by
 refine begins [[0, 1], [0, 1], [0, 1, 5], [0, 1, 5], [0, 1, 5], [], [0, 1, 5], [1]] Tryz.func177 rfl (rs := [.tmp 4]) rfl rfl ?_
 intro wf
 repeat (first | rw [ko] | rw [kr] | simp -dsimp -implicitDefEqProofs only [go_sem])
 refine lz_keep [0] (fun m e h' => h' = h ∧ ∃ k : Nat, look e 5 .mk = .raw (.int .i64 k) ∧ look e 1 .mk = .raw (.int .i64 (k0 + k)) ∧ m + k = n) n ?_ ?_
 ·exact ⟨rfl, 0, by simp -dsimp -implicitDefEqProofs only [go_sem, Int.natCast_zero], by simp -dsimp -implicitDefEqProofs only [go_sem, Int.natCast_zero, Int.add_zero], by omega⟩
 ·rintro m e h hks ⟨rfl, k, e5, e1, hk⟩
  simp -dsimp -implicitDefEqProofs only [go_sem, rq1] at hks
  repeat (first | rw [ko] | rw [kr] | simp -dsimp -implicitDefEqProofs only [go_sem, rq1, hks, e5, e1, marks_len])
  refine gz_dec (fun h2 => ?_) (fun h2 => ?_)
  ·have h3 : k < n := by omega
   have hw : IntKind.i64.wrap (k0 + k + 1) = k0 + ((k + 1 : Nat) : Int) := by rw [wrap_i64] <;> omega
   repeat (first | rw [ko] | rw [kr] | simp -dsimp -implicitDefEqProofs only [go_sem, rq1, marks_len, nat_nn, Int.toNat_natCast, h3, marks_get h3, eq_self, not_true_eq_false, wrap_succ h3 hn0, hw])
   exact nx_keep (m - 1) (by omega) zsm ⟨rfl, k + 1, zsm, zsm, by omega⟩
  ·repeat (first | rw [ko] | rw [kr] | simp -dsimp -implicitDefEqProofs only [go_sem, rq1])
   have : k = n := by omega
   subst this
   exact ⟨rfl, rfl⟩
theorem markIntS_ok {N : Nat} {v : X} {zs : List Int} {h : H2} {k0 : Int} (o : OwnI N h v zs) (hn0 : zs.length ≤ 9223372036854775807) (hk0 : 0 ≤ k0 ∧ k0 + zs.length ≤ 9223372036854775807) :
  WC2 Tryz.prog W0 43 [v, .raw (.int .i64 k0)] h (fun r h' => r = .raw (.int .i64 (k0 + zs.length)) ∧ OwnI N h' v (marksI k0 zs.length) ∧ hn h' .mk = hn h .mk ∧ ∀ b, blockOf v ≠ some b → h'.get b = h.get b) := by
 obtain ⟨hlen, hcase⟩ := o
 rcases hcase with ⟨rfl, h0⟩ | ⟨b, rfl, hNb, hbn, hb⟩
 ·have : zs = [] := List.eq_nil_of_length_eq_zero h0
  subst this
  refine begins [[0, 1], [0, 1], [0, 1, 5], [0, 1, 5], [0, 1, 5], [0, 1, 5], [1]] Tryz.func43 rfl (rs := [.tmp 4]) rfl rfl ?_
  intro wf
  repeat (first | rw [ko] | rw [kr] | simp -dsimp -implicitDefEqProofs only [go_sem])
  refine lz_keep [0] (fun m e h' => h' = h ∧ look e 5 .mk = .raw (.int .i64 0) ∧ look e 1 .mk = .raw (.int .i64 k0)) 0 ?_ ?_
  ·exact ⟨rfl, zsm, zsm⟩
  ·rintro m e h hks ⟨rfl, e5, e1⟩
   simp -dsimp -implicitDefEqProofs only [go_sem, rq1] at hks
   repeat (first | rw [ko] | rw [kr] | simp -dsimp -implicitDefEqProofs only [go_sem, rq1, hks, e5, e1, Int.natCast_zero, Int.lt_irrefl])
   exact ⟨by simp, ⟨by simp, .inl ⟨rfl, rfl⟩⟩, rfl, fun _ _ => rfl⟩
 ·refine begins [[0, 1], [0, 1], [0, 1, 5], [0, 1, 5], [0, 1, 5], [0, 1, 5], [1]] Tryz.func43 rfl (rs := [.tmp 4]) rfl rfl ?_
  intro wf
  repeat (first | rw [ko] | rw [kr] | simp -dsimp -implicitDefEqProofs only [go_sem])
  refine lz_keep [0] (fun m e h' => ∃ (k : Nat) (cs : List X), look e 5 .mk = .raw (.int .i64 k) ∧ look e 1 .mk = .raw (.int .i64 (k0 + k)) ∧ m + k = zs.length ∧ hn h' .mk = hn h .mk ∧ hg h' b .mk = some ⟨1, cs⟩ ∧ (∀ c, c ≠ b → h'.get c = h.get c) ∧ cs.length = zs.length ∧ ∀ j : Nat, j < k → cs[j]? = some (cI (k0 + j))) zs.length ?_ ?_
  ·exact ⟨0, _, by simp -dsimp -implicitDefEqProofs only [go_sem, Int.natCast_zero], by simp -dsimp -implicitDefEqProofs only [go_sem, Int.natCast_zero, Int.add_zero], by omega, rfl, hb, fun _ _ => rfl, by simp, fun j hj => by omega⟩
  ·rintro m e h' hks ⟨k, cs, e5, e1, hk, hnn, hrow, hoth, hl, hpre⟩
   simp -dsimp -implicitDefEqProofs only [go_sem, rq1] at hks
   repeat (first | rw [ko] | rw [kr] | simp -dsimp -implicitDefEqProofs only [go_sem, rq1, hks, e5, e1])
   refine gz_dec (fun h2 => ?_) (fun h2 => ?_)
   ·have h3 : k < zs.length := by omega
    have hw2 : wrtL cs k [.raw (.int .i64 (k0 + k))] = some (cs.set k (.raw (.int .i64 (k0 + k)))) := wrt_set (by omega)
    have hi2 : (0 : Int) ≤ (k : Int) ∧ (k : Int) < (zs.length : Int) := by omega
    have hw : IntKind.i64.wrap (k0 + k + 1) = k0 + ((k + 1 : Nat) : Int) := by rw [wrap_i64] <;> omega
    repeat (first | rw [ko] | rw [kr] | simp -dsimp -implicitDefEqProofs only [go_sem, rq1, hrow, Int.toNat_natCast, hoo, hw2, hi2, wrap_succ h3 hn0, hw])
    refine nx_keep (m - 1) (by omega) zsm ⟨k + 1, cs.set k (.raw (.int .i64 (k0 + k))), zsm, zsm, by omega, hnn, by simp -dsimp -implicitDefEqProofs only [go_sem, hoo], fun c hc => ?_, by simpa using hl, ?_⟩
    ·show (if c = b then _ else h'.get c) = _
     rw [if_neg hc]; exact hoth c hc
    ·intro j hj
     by_cases hji : j = k
     ·subst hji; rw [List.getElem?_set_self (by omega)]; rfl
     ·rw [List.getElem?_set_ne (fun e => hji e.symm)]; exact hpre j (by omega)
   ·repeat (first | rw [ko] | rw [kr] | simp -dsimp -implicitDefEqProofs only [go_sem, rq1])
    have : k = zs.length := by omega
    subst this
    refine ⟨rfl, ⟨by simp [marks_len], .inr ⟨b, by rw [marks_len], hNb, by omega, ?_⟩⟩, hnn, fun c hc => hoth c fun e => hc (by rw [e]; rfl)⟩
    rw [hrow]
    congr 2
    apply List.ext_getElem?
    intro j
    by_cases hj : j < zs.length
    ·rw [hpre j hj, marksI, List.map_map, List.getElem?_map, List.getElem?_range hj]; rfl
    ·rw [List.getElem?_eq_none (by omega), List.getElem?_eq_none (by simp [marksI]; omega)]
def sumL (ss : List ByteArray) : Nat := (ss.map ByteArray.size).sum
theorem sumL_take {ss : List ByteArray} {k : Nat} (hk : k < ss.length) : sumL (ss.take (k + 1)) = sumL (ss.take k) + (ss.getD k default).size := by
 unfold sumL
 rw [List.take_succ_eq_append_getElem hk, List.getD_eq_getElem?_getD, List.getElem?_eq_getElem hk, List.map_append, List.sum_append]; rfl
theorem szStringS_ok {f : Adr} {zs : List ByteArray} {left : Int} {h : H2} (hn0 : zs.length ≤ 9223372036854775807) (hs0 : ∀ s ∈ zs, s.size ≤ 9223372036854775807) (hl : 0 ≤ left ∧ left ≤ 1048576) :
  WC2 Tryz.prog W0 108 [.sl f 1 (strs zs), .raw (.int .i64 left)] h (fun v h' => (∃ k : Int, v = .raw (.int .i64 k) ∧ (0 ≤ k → (zs.length : Int) + sumL zs + k ≤ left)) ∧ h' = h) := by
 have hw : IntKind.i64.wrap (left - zs.length) = left - zs.length := by rw [wrap_i64] <;> omega
 refine begins [[0, 1], [0, 1], [0, 1], [], [0, 1], [0, 1, 5], [0, 1, 5], [0, 1, 5], [0, 1, 5], [], [1]] Tryz.func108 rfl (rs := [.tmp 4]) rfl rfl ?_
 intro wf
 repeat (first | rw [ko] | rw [kr] | simp -dsimp -implicitDefEqProofs only [go_sem, rq1, hw])
 refine gz_dec (fun h1 => ?_) (fun h1 => ?_)
 ·repeat (first | rw [ko] | rw [kr] | simp -dsimp -implicitDefEqProofs only [go_sem])
  exact ⟨⟨_, rfl, fun hh => by omega⟩, rfl⟩
 ·repeat (first | rw [ko] | rw [kr] | simp -dsimp -implicitDefEqProofs only [go_sem, rq1])
  refine lz_keep [0] (fun m e h' => h' = h ∧ ∃ (k : Nat) (x : Int), look e 5 .mk = .raw (.int .i64 k) ∧ look e 1 .mk = .raw (.int .i64 x) ∧ 0 ≤ x ∧ (zs.length : Int) + sumL (zs.take k) + x = left ∧ m + k = zs.length) zs.length ?_ ?_
  ·exact ⟨rfl, 0, left - zs.length, zsm, zsm, by omega, by simp [sumL]; omega, by omega⟩
  ·rintro m e h hks ⟨rfl, k, x, e5, e1, hx, hsum, hk⟩
   simp -dsimp -implicitDefEqProofs only [go_sem, rq1] at hks
   repeat (first | rw [ko] | rw [kr] | simp -dsimp -implicitDefEqProofs only [go_sem, rq1, hks, e5, e1])
   refine gz_dec (fun h2 => ?_) (fun h2 => ?_)
   ·have h3 : k < zs.length := by omega
    have hsz := hs0 (zs.getD k default) (by rw [List.getD_eq_getElem?_getD, List.getElem?_eq_getElem h3]; exact List.getElem_mem h3)
    have hw2 : IntKind.i64.wrap (x - (zs.getD k default).size) = x - (zs.getD k default).size := by rw [wrap_i64] <;> omega
    repeat (first | rw [ko] | rw [kr] | simp -dsimp -implicitDefEqProofs only [go_sem, rq1, h3, hw2])
    refine gz_dec (fun h4 => ?_) (fun h4 => ?_)
    ·repeat (first | rw [ko] | rw [kr] | simp -dsimp -implicitDefEqProofs only [go_sem])
     exact ⟨⟨_, rfl, fun hh => by omega⟩, rfl⟩
    ·repeat (first | rw [ko] | rw [kr] | simp -dsimp -implicitDefEqProofs only [go_sem, rq1, wrap_succ h3 hn0])
     exact nx_keep (m - 1) (by omega) zsm ⟨rfl, k + 1, x - (zs.getD k default).size, zsm, zsm, by omega, by have := sumL_take h3; omega, by omega⟩
   ·repeat (first | rw [ko] | rw [kr] | simp -dsimp -implicitDefEqProofs only [go_sem, rq1])
    refine ⟨⟨x, rfl, fun _ => ?_⟩, rfl⟩
    rw [List.take_of_length_le (by omega)] at hsum
    omega
def mtN : Nat → ByteArray → ByteArray
 | 0, s => s
 | n + 1, s => mtN ((n + 1) / 10) (⟨#[UInt8.ofNat (48 + (n + 1) % 10)]⟩ ++ s)
decreasing_by omega
def markT (k : Int) : ByteArray := if k ≤ 0 then ⟨#[109, 48]⟩ else ⟨#[109]⟩ ++ mtN k.toNat ⟨#[]⟩
theorem markText_ok {k : Int} {h : H2} (hk : k ≤ 4611686018427387904) : WC2 Tryz.prog W0 194 [.raw (.int .i64 k)] h (fun v h' => v = .raw (.string (markT k)) ∧ h' = h.up (hn h' .mk) ∧ hn h .mk ≤ hn h' .mk) := by
 refine begins [[0], [0], [], [0], [0, 3], [0, 3], [0, 3], [3]] Tryz.func194 rfl (rs := [.tmp 2]) rfl rfl ?_
 intro wf
 repeat (first | rw [ko] | rw [kr] | simp -dsimp -implicitDefEqProofs only [go_sem])
 refine gz_dec (fun h1 => ?_) (fun h1 => ?_)
 ·repeat (first | rw [ko] | rw [kr] | simp -dsimp -implicitDefEqProofs only [go_sem])
  exact ⟨by rw [markT, if_pos h1], rfl, Nat.le_refl _⟩
 ·repeat (first | rw [ko] | rw [kr] | simp -dsimp -implicitDefEqProofs only [go_sem, rq1])
  refine lz_keep [] (fun m e h' => h' = h.up (hn h' .mk) ∧ hn h .mk ≤ hn h' .mk ∧ ∃ s : ByteArray, look e 0 .mk = .raw (.int .i64 m) ∧ look e 3 .mk = .raw (.string s) ∧ mtN m s = mtN k.toNat ⟨#[]⟩ ∧ (s.size : Int) + m ≤ k) k.toNat ?_ ?_
  ·refine ⟨rfl, Nat.le_refl _, ⟨#[]⟩, ?_, zsm, rfl, ?_⟩
   ·rw [show ((k.toNat : Nat) : Int) = k by omega]; simp -dsimp -implicitDefEqProofs only [go_sem]
   ·show (0 : Int) + _ ≤ _; omega
  ·rintro m e h' hks ⟨hh, hn', s, e0, e3, hs, hsz⟩
   simp -dsimp -implicitDefEqProofs only [go_sem] at hks
   repeat (first | rw [ko] | rw [kr] | simp -dsimp -implicitDefEqProofs only [go_sem, e0, e3])
   refine gz_dec (fun h2 => ?_) (fun h2 => ?_)
   ·obtain ⟨m, rfl⟩ : ∃ q, m = q + 1 := ⟨m - 1, by omega⟩
    have t10 : ((10 : Int) == 0) = false := rfl
    have hw1 : IntKind.i64.wrap (48 + ((m + 1 : Nat) : Int).tmod 10) = ((48 + (m + 1) % 10 : Nat) : Int) := by
     rw [Int.tmod_eq_emod_of_nonneg (by omega), wrap_i64] <;> omega
    have hw2 : IntKind.i64.wrap (((m + 1 : Nat) : Int).tdiv 10) = (((m + 1) / 10 : Nat) : Int) := by
     rw [Int.tdiv_eq_ediv_of_nonneg (by omega), wrap_i64] <;> omega
    have hw3 : IntKind.u8.wrap ((48 + (m + 1) % 10 : Nat) : Int) = ((48 + (m + 1) % 10 : Nat) : Int) := by
     rw [wrap_u8]; omega
    have hsz2 : (((ByteArray.mk #[UInt8.ofNat (48 + (m + 1) % 10)]).size + s.size : Nat) : Int) ≤ 9223372036854775807 := by
     have : (ByteArray.mk #[UInt8.ofNat (48 + (m + 1) % 10)]).size = 1 := rfl
     omega
    repeat (first | rw [ko] | rw [kr] | simp -dsimp -implicitDefEqProofs only [go_sem, rq1, rq3, t10, hw1, hw2, hw3, hsz2])
    refine nx_keep ((m + 1) / 10) (by omega) zsm ⟨?_, ?_, ⟨#[UInt8.ofNat (48 + (m + 1) % 10)]⟩ ++ s, zsm, zsm, by rw [← hs, mtN], ?_⟩
    ·rw [hh]; rfl
    ·simp -dsimp -implicitDefEqProofs only [go_sem]; omega
    ·rw [ByteArray.size_append]
     have : (ByteArray.mk #[UInt8.ofNat (48 + (m + 1) % 10)]).size = 1 := rfl
     omega
   ·have hm : m = 0 := by omega
    subst hm
    have hsz3 : (((ByteArray.mk #[109]).size + s.size : Nat) : Int) ≤ 9223372036854775807 := by
     have : (ByteArray.mk #[109]).size = 1 := rfl
     omega
    repeat (first | rw [ko] | rw [kr] | simp -dsimp -implicitDefEqProofs only [go_sem, hsz3])
    refine ⟨?_, hh, hn'⟩
    rw [markT, if_neg (by omega), ← hs]; simp only [mtN]
def marksS (k : Int) (n : Nat) : List ByteArray := (marksI k n).map markT
theorem marksS_len {k : Int} {n : Nat} : (marksS k n).length = n := by simp [marksS, marksI]
theorem marksS_get {k : Int} {n j : Nat} (hj : j < n) : (marksS k n).getD j default = markT (k + j) := by
 rw [List.getD_eq_getElem?_getD, marksS, marksI, List.map_map, List.getElem?_map, List.getElem?_range hj]; rfl
theorem heldStringS_ok {f : Adr} {n : Nat} {k0 : Int} {h : H2} (hk0 : 0 ≤ k0 ∧ k0 + n ≤ 4611686018427387904) :
  WC2 Tryz.prog W0 181 [.sl f 1 (strs (marksS k0 n)), .raw (.int .i64 k0)] h (fun v h' => v = .raw (.int .i64 (k0 + n)) ∧ h' = h.up (hn h' .mk) ∧ hn h .mk ≤ hn h' .mk) := by
 refine begins [[0, 1], [0, 1], [0, 1, 5], [0, 1, 5], [0, 1, 5], [], [0, 1, 5], [1]] Tryz.func181 rfl (rs := [.tmp 4]) rfl rfl ?_
 intro wf
 repeat (first | rw [ko] | rw [kr] | simp -dsimp -implicitDefEqProofs only [go_sem])
 refine lz_keep [0] (fun m e h' => h' = h.up (hn h' .mk) ∧ hn h .mk ≤ hn h' .mk ∧ ∃ k : Nat, look e 5 .mk = .raw (.int .i64 k) ∧ look e 1 .mk = .raw (.int .i64 (k0 + k)) ∧ m + k = n) n ?_ ?_
 ·exact ⟨rfl, Nat.le_refl _, 0, zsm, by simp -dsimp -implicitDefEqProofs only [go_sem, Int.add_zero], by omega⟩
 ·rintro m e h2 hks ⟨hh, hN, k, e5, e1, hk⟩
  simp -dsimp -implicitDefEqProofs only [go_sem, rq1] at hks
  repeat (first | rw [ko] | rw [kr] | simp -dsimp -implicitDefEqProofs only [go_sem, rq1, hks, e5, e1, marksS_len])
  refine gz_dec (fun h2 => ?_) (fun h2 => ?_)
  ·have h3 : k < n := by omega
   have hw : IntKind.i64.wrap (k0 + k + 1) = k0 + ((k + 1 : Nat) : Int) := by rw [wrap_i64] <;> omega
   repeat (first | rw [ko] | rw [kr] | simp -dsimp -implicitDefEqProofs only [go_sem, rq1])
   refine dq_intro [(0, []), (1, []), (2, []), (3, []), (4, []), (5, [3]), (6, [])] (by kernel_rfl) ?_
   repeat (first | rw [ko] | rw [kr] | simp -dsimp -implicitDefEqProofs only [go_sem, rq1, marksS_len, h3, marksS_get h3])
   refine wz_intro (markText_ok (by omega)) ?_
   rintro _ h4 ⟨rfl, hh4, hN4⟩
   rw [kq]
   refine ⟨zsm, ?_⟩
   repeat (first | rw [ko] | rw [kr] | simp -dsimp -implicitDefEqProofs only [go_sem, rq1, wrap_succ h3 (show n ≤ 9223372036854775807 by omega), hw])
   exact nx_keep (m - 1) (by omega) zsm ⟨by rw [hh4, hh]; rfl, by omega, k + 1, zsm, zsm, by omega⟩
  ·repeat (first | rw [ko] | rw [kr] | simp -dsimp -implicitDefEqProofs only [go_sem, rq1])
   have : k = n := by omega
   subst this
   exact ⟨rfl, hh, hN⟩
abbrev cS (s : ByteArray) : X := .raw (.string s)
def OwnS (N : Nat) (g : H2) (v : X) (zs : List ByteArray) : Prop := Own N g v 1 zs.length (zs.map cS)
theorem markStringS_ok {N : Nat} {v : X} {zs : List ByteArray} {h : H2} {k0 : Int} (o : OwnS N h v zs) (hk0 : 0 ≤ k0 ∧ k0 + zs.length ≤ 4611686018427387904) :
  WC2 Tryz.prog W0 115 [v, .raw (.int .i64 k0)] h (fun r h' => r = .raw (.int .i64 (k0 + zs.length)) ∧ OwnS N h' v (marksS k0 zs.length) ∧ hn h .mk ≤ hn h' .mk ∧ ∀ b, blockOf v ≠ some b → h'.get b = h.get b) := by
 obtain ⟨hlen, hcase⟩ := o
 rcases hcase with ⟨rfl, h0⟩ | ⟨b, rfl, hNb, hbn, hb⟩
 ·have : zs = [] := List.eq_nil_of_length_eq_zero h0
  subst this
  refine begins [[0, 1], [0, 1], [0, 1, 5], [0, 1, 5], [0, 1, 5], [0, 1, 5], [1]] Tryz.func115 rfl (rs := [.tmp 4]) rfl rfl ?_
  intro wf
  repeat (first | rw [ko] | rw [kr] | simp -dsimp -implicitDefEqProofs only [go_sem])
  refine lz_keep [0] (fun m e h' => h' = h ∧ look e 5 .mk = .raw (.int .i64 0) ∧ look e 1 .mk = .raw (.int .i64 k0)) 0 ?_ ?_
  ·exact ⟨rfl, zsm, zsm⟩
  ·rintro m e h hks ⟨rfl, e5, e1⟩
   simp -dsimp -implicitDefEqProofs only [go_sem, rq1] at hks
   repeat (first | rw [ko] | rw [kr] | simp -dsimp -implicitDefEqProofs only [go_sem, rq1, hks, e5, e1, Int.lt_irrefl])
   exact ⟨by simp, ⟨by simp [marksS, marksI], .inl ⟨rfl, rfl⟩⟩, Nat.le_refl _, fun _ _ => rfl⟩
 ·refine begins [[0, 1], [0, 1], [0, 1, 5], [0, 1, 5], [0, 1, 5], [0, 1, 5], [1]] Tryz.func115 rfl (rs := [.tmp 4]) rfl rfl ?_
  intro wf
  repeat (first | rw [ko] | rw [kr] | simp -dsimp -implicitDefEqProofs only [go_sem])
  refine lz_keep [0] (fun m e h' => ∃ (k : Nat) (cs : List X), look e 5 .mk = .raw (.int .i64 k) ∧ look e 1 .mk = .raw (.int .i64 (k0 + k)) ∧ m + k = zs.length ∧ hn h .mk ≤ hn h' .mk ∧ hg h' b .mk = some ⟨1, cs⟩ ∧ (∀ c, c ≠ b → h'.get c = h.get c) ∧ cs.length = zs.length ∧ ∀ j : Nat, j < k → cs[j]? = some (cS (markT (k0 + j)))) zs.length ?_ ?_
  ·exact ⟨0, _, zsm, by simp -dsimp -implicitDefEqProofs only [go_sem, Int.add_zero], by omega, Nat.le_refl _, hb, fun _ _ => rfl, by simp, fun j hj => by omega⟩
  ·rintro m e h' hks ⟨k, cs, e5, e1, hk, hnn, hrow, hoth, hl, hpre⟩
   simp -dsimp -implicitDefEqProofs only [go_sem, rq1] at hks
   repeat (first | rw [ko] | rw [kr] | simp -dsimp -implicitDefEqProofs only [go_sem, rq1, hks, e5, e1])
   refine gz_dec (fun h2 => ?_) (fun h2 => ?_)
   ·have h3 : k < zs.length := by omega
    have hw2 : wrtL cs k [.raw (.string (markT (k0 + k)))] = some (cs.set k (.raw (.string (markT (k0 + k))))) := wrt_set (by omega)
    have hi2 : (0 : Int) ≤ (k : Int) ∧ (k : Int) < (zs.length : Int) := by omega
    have hw : IntKind.i64.wrap (k0 + k + 1) = k0 + ((k + 1 : Nat) : Int) := by rw [wrap_i64] <;> omega
    repeat (first | rw [ko] | rw [kr] | simp -dsimp -implicitDefEqProofs only [go_sem, rq1])
    refine wz_intro (markText_ok (by omega)) ?_
    rintro _ h4 ⟨rfl, hh4, hN4⟩
    rw [hh4]
    repeat (first | rw [ko] | rw [kr] | simp -dsimp -implicitDefEqProofs only [go_sem, rq1, hrow, hw2, hi2, wrap_succ h3 (show zs.length ≤ 9223372036854775807 by omega), hw])
    refine nx_keep (m - 1) (by omega) zsm ⟨k + 1, cs.set k (.raw (.string (markT (k0 + k)))), zsm, zsm, by omega, by simp -dsimp -implicitDefEqProofs only [go_sem]; omega, zsm, fun c hc => ?_, by simpa using hl, ?_⟩
    ·show (if c = b then _ else h'.get c) = _
     rw [if_neg hc]; exact hoth c hc
    ·intro j hj
     by_cases hji : j = k
     ·subst hji; rw [List.getElem?_set_self (by omega)]
     ·rw [List.getElem?_set_ne (fun e => hji e.symm)]; exact hpre j (by omega)
   ·repeat (first | rw [ko] | rw [kr] | simp -dsimp -implicitDefEqProofs only [go_sem, rq1])
    have : k = zs.length := by omega
    subst this
    refine ⟨rfl, ⟨by simp [marksS_len], .inr ⟨b, by rw [marksS_len], hNb, by omega, ?_⟩⟩, hnn, fun c hc => hoth c fun e => hc (by rw [e]; rfl)⟩
    rw [hrow]
    congr 2
    apply List.ext_getElem?
    intro j
    by_cases hj : j < zs.length
    ·rw [hpre j hj, marksS, marksI, List.map_map, List.map_map, List.getElem?_map, List.getElem?_range hj]; rfl
    ·rw [List.getElem?_eq_none (by omega), List.getElem?_eq_none (by simp [marksS, marksI]; omega)]
end Go.Bi
end
section
namespace Go.Bi
open Go.Proofs
open Go.Ai (plainS)
variable {W0 : World}
theorem up_up {h : H2} {n m : Nat} : (h.up n).up m = h.up m := rfl
attribute [go_sem] up_up
theorem OTs.head {g : H2} {bs : List Nat} {ys : List X} {t : T} {ts : List T} (o : OTs g bs ys (t :: ts)) : ∃ b1 b2 y ys', bs = b1 ++ b2 ∧ ys = y :: ys' ∧ OT g b1 y t ∧ OTs g b2 ys' ts := by
 cases o with | cons a b => exact ⟨_, _, _, _, rfl, rfl, a, b⟩
theorem OTs.headv {g : H2} {bs : List Nat} {ys : List X} {v : Value} {ts : List T} (o : OTs g bs ys (.v v :: ts)) : ∃ ys', ys = .raw v :: ys' ∧ OTs g bs ys' ts := by
 cases o with | cons a b => cases a; exact ⟨_, rfl, b⟩
theorem OTs.tail0 {g : H2} {bs : List Nat} {ys : List X} (o : OTs g bs ys []) : bs = [] ∧ ys = [] := by cases o; exact ⟨rfl, rfl⟩
theorem szIntS_pw {f : Adr} {zs : List Int} {left : Int} {h : H2} (hn0 : zs.length ≤ 9223372036854775807) (hl : 0 ≤ left ∧ left ≤ 1048576) : PW Tryz.prog W0 74 [.sl f 1 (ints zs), .raw (.int .i64 left)] h (fun y => ∃ k : Int, y = .raw (.int .i64 k) ∧ (0 ≤ k → (zs.length : Int) + k ≤ left)) :=
 PW.scalar ((szIntS_ok hn0 hl).mono fun y g' ⟨⟨k, h1, h2⟩, h3⟩ => ⟨by rw [h3]; exact H2.le.refl _, ⟨_, h1⟩, k, h1, h2⟩)
theorem szStringS_pw {f : Adr} {zs : List ByteArray} {left : Int} {h : H2} (hn0 : zs.length ≤ 9223372036854775807 ∧ ∀ s ∈ zs, s.size ≤ 9223372036854775807) (hl : 0 ≤ left ∧ left ≤ 1048576) : PW Tryz.prog W0 108 [.sl f 1 (strs zs), .raw (.int .i64 left)] h (fun y => ∃ k : Int, y = .raw (.int .i64 k) ∧ (0 ≤ k → (zs.length : Int) + sumL zs + k ≤ left)) :=
 PW.scalar ((szStringS_ok hn0.1 hn0.2 hl).mono fun y g' ⟨⟨k, h1, h2⟩, h3⟩ => ⟨by rw [h3]; exact H2.le.refl _, ⟨_, h1⟩, k, h1, h2⟩)
theorem eqIntS_pw {f f' : Adr} {zs : List Int} {h : H2} (hn0 : zs.length ≤ 9223372036854775807) : PW Tryz.prog W0 41 [.sl f 1 (ints zs), .sl f' 1 (ints zs)] h (fun y => y = .raw (.bool true)) :=
 PW.scalar ((eqIntS_ok hn0).mono fun y g' ⟨h1, h3⟩ => ⟨by rw [h3]; exact H2.le.refl _, ⟨_, h1⟩, h1⟩)
theorem eqStringS_pw {f f' : Adr} {zs : List ByteArray} {h : H2} (hn0 : zs.length ≤ 9223372036854775807) : PW Tryz.prog W0 114 [.sl f 1 (strs zs), .sl f' 1 (strs zs)] h (fun y => y = .raw (.bool true)) :=
 PW.scalar ((eqStringS_ok hn0).mono fun y g' ⟨h1, h3⟩ => ⟨by rw [h3]; exact H2.le.refl _, ⟨_, h1⟩, h1⟩)
theorem strs_T {zs : List ByteArray} : strs zs = (zs.map Value.string).map fun v => [T.v v] := by simp [strs, eS, Function.comp_def]
theorem OwnS.tree {g : H2} {N : Nat} {x : X} {zs : List ByteArray} (o : OwnS N g x zs) : ∃ bs, OT g bs x (.l 1 (strs zs)) ∧ Bl N (hn g .mk) bs := by
 obtain ⟨hl, hc⟩ := o
 rcases hc with ⟨rfl, h0⟩ | ⟨b, rfl, h1, h2, h3⟩
 ·have : zs = [] := List.eq_nil_of_length_eq_zero h0
  subst this
  exact ⟨[], .nil, .nil⟩
 ·have e : zs.map cS = (zs.map Value.string).map .raw := by simp [Function.comp_def]
  rw [e] at h3
  have := OT.flat (N := N) h3 (fun v hv => by obtain ⟨z, _, rfl⟩ := List.mem_map.1 hv; rfl)
  rw [← strs_T, List.length_map] at this
  exact ⟨[b], this, (Bl.one h2).wide h1 (Nat.le_refl _)⟩
theorem OT.ownS {g : H2} {bs : List Nat} {x : X} {zs : List ByteArray} (o : OT g bs x (.l 1 (strs zs))) {N : Nat} (hb : Bl N (hn g .mk) bs) : OwnS N g x zs := by
 generalize ht : T.l 1 (strs zs) = t at o
 cases o with
 | raw => cases ht
 | nil =>
  simp only [T.l.injEq] at ht
  have : zs = [] := by cases zs <;> simp_all [strs]
  subst this
  exact .nil
 | row h1 h2 h3 h4 h5 =>
  simp only [T.l.injEq] at ht
  obtain ⟨rfl, rfl⟩ := ht
  rename_i b n bs' cs
  simp at h2
  have hn' : zs.length = n := by rw [← h3]; simp [strs]
  subst hn'
  refine ⟨by simp, .inr ⟨b, rfl, (hb.2 b (by simp)).1, (hb.2 b (by simp)).2, ?_⟩⟩
  have hcs : cs = zs.map cS := by
   clear h1 h2 h3 h4 hb
   induction zs generalizing cs bs' with
   | nil => simp [strs] at h5; cases h5; rfl
   | cons z zs ih =>
    simp only [strs, eS, List.map_cons, List.flatten_cons, List.cons_append, List.nil_append] at h5
    cases h5 with
    | cons a b =>
     cases a
     rw [List.map_cons, ih b]
  rw [← hcs]; exact h1
theorem toIntS_new {f : Adr} {zs : List Int} {h : H2} (hn0 : zs.length ≤ 1048576) : NewT Tryz.prog W0 38 [.sl f 1 (ints zs)] h (.l 1 (ints zs)) :=
 (toIntS_ok hn0).mono fun v h' ⟨h1, h2⟩ => ⟨h1, OwnI.tree h2⟩
theorem toStringS_new {f : Adr} {zs : List ByteArray} {h : H2} (hn0 : zs.length ≤ 1048576) : NewT Tryz.prog W0 112 [.sl f 1 (strs zs)] h (.l 1 (strs zs)) :=
 (toStringS_ok hn0).mono fun v h' ⟨h1, h2⟩ => ⟨h1, OwnS.tree h2⟩
theorem OT.cell {g : H2} {bs : List Nat} {x : X} {z : Nat} {es : List (List T)} (o : OT g bs x (.l z es)) : cellsX x = some [x] ∧ okX x = true ∧ isTpX x = false := by
 generalize ht : T.l z es = t at o
 cases o with
 | raw => cases ht
 | nil => exact ⟨rfl, rfl, rfl⟩
 | row => exact ⟨rfl, rfl, rfl⟩
theorem Bl.split {N M : Nat} {a b : List Nat} (l : Bl N M (a ++ b)) : Bl N M a ∧ Bl N M b ∧ ∀ x ∈ a, x ∉ b := by
 obtain ⟨h1, h2⟩ := l
 rw [List.nodup_append] at h1
 exact ⟨⟨h1.1, fun x hx => h2 x (by simp [hx])⟩, ⟨h1.2.1, fun x hx => h2 x (by simp [hx])⟩, fun x hx hy => h1.2.2 x hx x hy rfl⟩
theorem OT.block {g : H2} {bs : List Nat} {x : X} {z : Nat} {es : List (List T)} (o : OT g bs x (.l z es)) {b : Nat} (hb : blockOf x = some b) : b ∈ bs := by
 generalize ht : T.l z es = t at o
 cases o with
 | raw => cases ht
 | nil => cases hb
 | row h1 h2 h3 h4 h5 => simp only [blockOf] at hb; cases hb; simp
theorem flat_cells : ∀ {vs : List Value}, (vs.map fun v => [T.v v]).flatten = vs.map .v
 | [] => rfl
 | v :: vs => by simp [flat_cells]
theorem OTs.raws_bs {g : H2} : ∀ {vs : List Value} {bs : List Nat} {xs : List X}, OTs g bs xs (vs.map .v) → bs = []
 | [], _, _, o => (OTs.tail0 o).1
 | v :: vs, _, _, o => by
  obtain ⟨ys, rfl, o'⟩ := OTs.headv (by simpa using o)
  exact OTs.raws_bs o'
theorem markIntS_tree {N : Nat} {bs : List Nat} {v : X} {zs : List Int} {h : H2} {k0 : Int} (o : OT h bs v (.l 1 (ints zs))) (bl : Bl N (hn h .mk) bs) (hk : 0 ≤ k0 ∧ k0 + zs.length ≤ 4611686018427387904) :
  WC2 Tryz.prog W0 43 [v, .raw (.int .i64 k0)] h (fun r h' => ∃ (k1 : Int) (c' : List Int), r = .raw (.int .i64 k1) ∧ k0 ≤ k1 ∧ k1 ≤ k0 + zs.length ∧ OT h' bs v (.l 1 (ints c')) ∧ (∀ f g, PW Tryz.prog W0 177 [.sl f 1 (ints c'), .raw (.int .i64 k0)] g (fun y => y = .raw (.int .i64 k1))) ∧ hn h .mk ≤ hn h' .mk ∧ ∀ b, b < hn h .mk → b ∉ bs → h'.get b = h.get b) := by
 refine (markIntS_ok (o.own bl) (by omega) (by omega)).mono ?_
 rintro r h' ⟨rfl, ow, hn', fr⟩
 refine ⟨_, marksI k0 zs.length, rfl, by omega, by omega, ?_, fun f g => PW.scalar ((heldIntS_ok (by omega) (by omega)).mono fun y g' ⟨h1, h3⟩ => ⟨by rw [h3]; exact H2.le.refl _, ⟨_, h1⟩, h1⟩), by omega, fun b _ hb => fr b fun e => hb (o.block e)⟩
 obtain ⟨bs', o', bl'⟩ := ow.tree
 have : bs' = bs := by
  generalize ht : T.l 1 (ints (marksI k0 zs.length)) = t at o'
  generalize ht2 : T.l 1 (ints zs) = t2 at o
  cases o' with
  | raw => cases ht
  | nil => cases o with | nil => rfl | raw => cases ht2
  | row p1 p2 p3 p4 p5 =>
   cases o with
   | raw => cases ht2
   | row q1 q2 q3 q4 q5 =>
    simp only [T.l.injEq] at ht ht2
    obtain ⟨rfl, rfl⟩ := ht
    obtain ⟨rfl, rfl⟩ := ht2
    rw [ints_T, flat_cells] at p5 q5
    rw [OTs.raws_bs p5, OTs.raws_bs q5]
 rw [← this]; exact o'
theorem markStringS_tree {N : Nat} {bs : List Nat} {v : X} {zs : List ByteArray} {h : H2} {k0 : Int} (o : OT h bs v (.l 1 (strs zs))) (bl : Bl N (hn h .mk) bs) (hk : 0 ≤ k0 ∧ k0 + zs.length ≤ 4611686018427387904) :
  WC2 Tryz.prog W0 115 [v, .raw (.int .i64 k0)] h (fun r h' => ∃ (k1 : Int) (c' : List ByteArray), r = .raw (.int .i64 k1) ∧ k0 ≤ k1 ∧ k1 ≤ k0 + zs.length ∧ OT h' bs v (.l 1 (strs c')) ∧ (∀ f g, PW Tryz.prog W0 181 [.sl f 1 (strs c'), .raw (.int .i64 k0)] g (fun y => y = .raw (.int .i64 k1))) ∧ hn h .mk ≤ hn h' .mk ∧ ∀ b, b < hn h .mk → b ∉ bs → h'.get b = h.get b) := by
 refine (markStringS_ok (o.ownS bl) (by omega)).mono ?_
 rintro r h' ⟨rfl, ow, hn', fr⟩
 refine ⟨_, marksS k0 zs.length, rfl, by omega, by omega, ?_, fun f g => PW.scalar ((heldStringS_ok (by omega)).mono fun y g' ⟨h1, h3, h4⟩ => ⟨by rw [h3]; exact le_up (H2.le.refl _) h4, ⟨_, h1⟩, h1⟩), hn', fun b _ hb => fr b fun e => hb (o.block e)⟩
 obtain ⟨bs', o', bl'⟩ := ow.tree
 have : bs' = bs := by
  generalize ht : T.l 1 (strs (marksS k0 zs.length)) = t at o'
  generalize ht2 : T.l 1 (strs zs) = t2 at o
  cases o' with
  | raw => cases ht
  | nil => cases o with | nil => rfl | raw => cases ht2
  | row p1 p2 p3 p4 p5 =>
   cases o with
   | raw => cases ht2
   | row q1 q2 q3 q4 q5 =>
    simp only [T.l.injEq] at ht ht2
    obtain ⟨rfl, rfl⟩ := ht
    obtain ⟨rfl, rfl⟩ := ht2
    rw [strs_T, flat_cells] at p5 q5
    rw [OTs.raws_bs p5, OTs.raws_bs q5]
 rw [← this]; exact o'
end Go.Bi
end
section
set_option maxRecDepth 20000
namespace Go.Bi
open Go.Proofs
open Go.Ai (wrap_i64 wrap_u8)
variable {W0 : World}
structure LConfig where
 top : Int
 seed : Int
 new : Int
 stops : List ByteArray
instance : Inhabited LConfig := ⟨⟨default, default, default, default⟩⟩
def eConfig (c : LConfig) : List T := [.v (.int .i64 c.top), .v (.int .i64 c.seed), .v (.int .i64 c.new), .l 1 (strs c.stops)]
def xConfig (F : Nat → Adr) (c : LConfig) : List X := [.raw (.int .i64 c.top), .raw (.int .i64 c.seed), .raw (.int .i64 c.new), .sl (F 3) 1 (strs c.stops)]
theorem xConfig_def {F : Nat → Adr} {c : LConfig} : xConfig F c = [.raw (.int .i64 c.top), .raw (.int .i64 c.seed), .raw (.int .i64 c.new), .sl (F 3) 1 (strs c.stops)] := rfl
def szConfig (c : LConfig) : Nat := (c.stops.length + sumL c.stops)
def cntConfig (c : LConfig) : Nat := c.stops.length
def fitConfig (c : LConfig) : Prop := (c.stops.length ≤ 9223372036854775807 ∧ ∀ s ∈ c.stops, s.size ≤ 9223372036854775807)
attribute [go_sem] xConfig_def
theorem invConfig {g : H2} {bs : List Nat} {ys : List X} {c : LConfig} (o : OTs g bs ys (eConfig c)) : ∃ b3 s3, ys = [.raw (.int .i64 c.top), .raw (.int .i64 c.seed), .raw (.int .i64 c.new), s3] ∧ bs = b3 ∧ OT g b3 s3 (.l 1 (strs c.stops)) := by
 unfold eConfig at o
 obtain ⟨ys0, rfl, o0⟩ := OTs.headv o
 obtain ⟨ys1, rfl, o1⟩ := OTs.headv o0
 obtain ⟨ys2, rfl, o2⟩ := OTs.headv o1
 obtain ⟨b3, bs3, s3, ys3, rfl, rfl, a3, o3⟩ := OTs.head o2
 obtain ⟨rfl, rfl⟩ := OTs.tail0 o3
 exact ⟨_, _, rfl, by simp only [List.append_nil], a3⟩
theorem outConfig {g : H2} {c : LConfig} {b3 : List Nat} {s3 : X} (a3 : OT g b3 s3 (.l 1 (strs c.stops))) : OTs g (b3) [.raw (.int .i64 c.top), .raw (.int .i64 c.seed), .raw (.int .i64 c.new), s3] (eConfig c) := by
 have := OTs.cons (OT.raw (v := .int .i64 c.top) rfl) (OTs.cons (OT.raw (v := .int .i64 c.seed) rfl) (OTs.cons (OT.raw (v := .int .i64 c.new) rfl) (OTs.cons a3 (OTs.nil))))
 simpa only [eConfig, List.append_nil, List.nil_append] using this
theorem szConfig_ok {F : Nat → Adr} {c : LConfig} {left : Int} {h : H2} (hf : fitConfig c) (hl : 0 ≤ left ∧ left ≤ 1048576) : PW Tryz.prog W0 36 [.st (xConfig F c), .raw (.int .i64 left)] h (fun y => ∃ k : Int, y = .raw (.int .i64 k) ∧ (0 ≤ k → (szConfig c : Int) + k ≤ left)) := by
 unfold fitConfig at hf
 refine PW.scalar ?_
 refine begins [[0, 1], [1, 2], [1], [], [1]] Tryz.func36 rfl (rs := [.tmp 4]) rfl rfl ?_
 intro wf
 repeat (first | rw [ko] | rw [kr] | simp -dsimp -implicitDefEqProofs only [go_sem, rq1])
 refine pw_intro (szStringS_pw  hf ⟨by omega, by omega⟩) ?_
 rintro _ n3 hn3 ⟨k3, rfl, hk3⟩
 repeat (first | rw [ko] | rw [kr] | simp -dsimp -implicitDefEqProofs only [go_sem])
 refine gz_dec (fun q3 => ?_) (fun q3 => ?_)
 ·repeat (first | rw [ko] | rw [kr] | simp -dsimp -implicitDefEqProofs only [go_sem])
  exact ⟨zale, ⟨_, rfl⟩, _, rfl, fun hh => by omega⟩
 repeat (first | rw [ko] | rw [kr] | simp -dsimp -implicitDefEqProofs only [go_sem, rq1])
 exact ⟨zale, ⟨_, rfl⟩, _, rfl, fun hh => by unfold szConfig; omega⟩
theorem eqConfig_ok {F F' : Nat → Adr} {c : LConfig} {h : H2} (hf : fitConfig c) : PW Tryz.prog W0 42 [.st (xConfig F c), .st (xConfig F' c)] h (fun y => y = .raw (.bool true)) := by
 unfold fitConfig at hf
 refine PW.scalar ?_
 refine begins [[0, 1], [2, 3], [], [2, 3], [], [2, 3], [], [2, 3], [], []] Tryz.func42 rfl (rs := [.tmp 4]) rfl rfl ?_
 intro wf
 repeat (first | rw [ko] | rw [kr] | simp -dsimp -implicitDefEqProofs only [go_sem, rq1])
 refine pw_intro (eqStringS_pw  hf.1) ?_
 rintro _ n3 hn3 rfl
 repeat (first | rw [ko] | rw [kr] | simp -dsimp -implicitDefEqProofs only [go_sem])
 exact ⟨zale, ⟨_, rfl⟩, rfl⟩
structure LTable where
 pages : List Int
 count : Int
instance : Inhabited LTable := ⟨⟨default, default⟩⟩
def eTable (c : LTable) : List T := [.l 1 (ints c.pages), .v (.int .i64 c.count)]
def xTable (F : Nat → Adr) (c : LTable) : List X := [.sl (F 0) 1 (ints c.pages), .raw (.int .i64 c.count)]
theorem xTable_def {F : Nat → Adr} {c : LTable} : xTable F c = [.sl (F 0) 1 (ints c.pages), .raw (.int .i64 c.count)] := rfl
def szTable (c : LTable) : Nat := c.pages.length
def fitTable (c : LTable) : Prop := c.pages.length ≤ 9223372036854775807
attribute [go_sem] xTable_def
theorem invTable {g : H2} {bs : List Nat} {ys : List X} {c : LTable} (o : OTs g bs ys (eTable c)) : ∃ b0 s0, ys = [s0, .raw (.int .i64 c.count)] ∧ bs = b0 ∧ OT g b0 s0 (.l 1 (ints c.pages)) := by
 unfold eTable at o
 obtain ⟨b0, bs0, s0, ys0, rfl, rfl, a0, o0⟩ := OTs.head o
 obtain ⟨ys1, rfl, o1⟩ := OTs.headv o0
 obtain ⟨rfl, rfl⟩ := OTs.tail0 o1
 exact ⟨_, _, rfl, by simp only [List.append_nil], a0⟩
theorem outTable {g : H2} {c : LTable} {b0 : List Nat} {s0 : X} (a0 : OT g b0 s0 (.l 1 (ints c.pages))) : OTs g (b0) [s0, .raw (.int .i64 c.count)] (eTable c) := by
 have := OTs.cons a0 (OTs.cons (OT.raw (v := .int .i64 c.count) rfl) (OTs.nil))
 simpa only [eTable, List.append_nil, List.nil_append] using this
theorem szTable_ok {F : Nat → Adr} {c : LTable} {left : Int} {h : H2} (hf : fitTable c) (hl : 0 ≤ left ∧ left ≤ 1048576) : PW Tryz.prog W0 216 [.st (xTable F c), .raw (.int .i64 left)] h (fun y => ∃ k : Int, y = .raw (.int .i64 k) ∧ (0 ≤ k → (szTable c : Int) + k ≤ left)) := by
 unfold fitTable at hf
 refine PW.scalar ?_
 refine begins [[0, 1], [1, 2], [1], [], [1]] Tryz.func216 rfl (rs := [.tmp 4]) rfl rfl ?_
 intro wf
 repeat (first | rw [ko] | rw [kr] | simp -dsimp -implicitDefEqProofs only [go_sem, rq1])
 refine pw_intro (szIntS_pw  hf ⟨by omega, by omega⟩) ?_
 rintro _ n0 hn0 ⟨k0, rfl, hk0⟩
 repeat (first | rw [ko] | rw [kr] | simp -dsimp -implicitDefEqProofs only [go_sem])
 refine gz_dec (fun q0 => ?_) (fun q0 => ?_)
 ·repeat (first | rw [ko] | rw [kr] | simp -dsimp -implicitDefEqProofs only [go_sem])
  exact ⟨zale, ⟨_, rfl⟩, _, rfl, fun hh => by omega⟩
 repeat (first | rw [ko] | rw [kr] | simp -dsimp -implicitDefEqProofs only [go_sem, rq1])
 exact ⟨zale, ⟨_, rfl⟩, _, rfl, fun hh => by unfold szTable; omega⟩
theorem eqTable_ok {F F' : Nat → Adr} {c : LTable} {h : H2} (hf : fitTable c) : PW Tryz.prog W0 221 [.st (xTable F c), .st (xTable F' c)] h (fun y => y = .raw (.bool true)) := by
 unfold fitTable at hf
 refine PW.scalar ?_
 refine begins [[0, 1], [2, 3], [], [2, 3], [], []] Tryz.func221 rfl (rs := [.tmp 4]) rfl rfl ?_
 intro wf
 repeat (first | rw [ko] | rw [kr] | simp -dsimp -implicitDefEqProofs only [go_sem])
 refine pw_intro (eqIntS_pw  hf) ?_
 rintro _ n0 hn0 rfl
 repeat (first | rw [ko] | rw [kr] | simp -dsimp -implicitDefEqProofs only [go_sem, rq1])
 exact ⟨zale, ⟨_, rfl⟩, rfl⟩
structure LRequest where
 prompt : Int
 tokens : List Int
 config : LConfig
 state : Int
 table : LTable
 status : Int
instance : Inhabited LRequest := ⟨⟨default, default, default, default, default, default⟩⟩
def eRequest (c : LRequest) : List T := [.v (.int .i64 c.prompt), .l 1 (ints c.tokens), .v (.int .i64 c.config.top), .v (.int .i64 c.config.seed), .v (.int .i64 c.config.new), .l 1 (strs c.config.stops), .v (.int .u64 c.state), .l 1 (ints c.table.pages), .v (.int .i64 c.table.count), .v (.int .i64 c.status)]
def xRequest (F : Nat → Adr) (c : LRequest) : List X := [.raw (.int .i64 c.prompt), .sl (F 1) 1 (ints c.tokens), .raw (.int .i64 c.config.top), .raw (.int .i64 c.config.seed), .raw (.int .i64 c.config.new), .sl (F 5) 1 (strs c.config.stops), .raw (.int .u64 c.state), .sl (F 7) 1 (ints c.table.pages), .raw (.int .i64 c.table.count), .raw (.int .i64 c.status)]
theorem eRequest_def {c : LRequest} : eRequest c = [.v (.int .i64 c.prompt), .l 1 (ints c.tokens), .v (.int .i64 c.config.top), .v (.int .i64 c.config.seed), .v (.int .i64 c.config.new), .l 1 (strs c.config.stops), .v (.int .u64 c.state), .l 1 (ints c.table.pages), .v (.int .i64 c.table.count), .v (.int .i64 c.status)] := rfl
theorem xRequest_def {F : Nat → Adr} {c : LRequest} : xRequest F c = [.raw (.int .i64 c.prompt), .sl (F 1) 1 (ints c.tokens), .raw (.int .i64 c.config.top), .raw (.int .i64 c.config.seed), .raw (.int .i64 c.config.new), .sl (F 5) 1 (strs c.config.stops), .raw (.int .u64 c.state), .sl (F 7) 1 (ints c.table.pages), .raw (.int .i64 c.table.count), .raw (.int .i64 c.status)] := rfl
def szRequest (c : LRequest) : Nat := c.tokens.length + szConfig c.config + szTable c.table
def fitRequest (c : LRequest) : Prop := c.tokens.length ≤ 9223372036854775807 ∧ fitConfig c.config ∧ fitTable c.table
attribute [go_sem] eRequest_def xRequest_def
theorem outRequest {g : H2} {c : LRequest} {b1 b5 b7 : List Nat} {s1 s5 s7 : X} (a1 : OT g b1 s1 (.l 1 (ints c.tokens))) (a5 : OT g b5 s5 (.l 1 (strs c.config.stops))) (a7 : OT g b7 s7 (.l 1 (ints c.table.pages))) : OTs g (b1 ++ (b5 ++ b7)) [.raw (.int .i64 c.prompt), s1, .raw (.int .i64 c.config.top), .raw (.int .i64 c.config.seed), .raw (.int .i64 c.config.new), s5, .raw (.int .u64 c.state), s7, .raw (.int .i64 c.table.count), .raw (.int .i64 c.status)] (eRequest c) := by
 have := OTs.cons (OT.raw (v := .int .i64 c.prompt) rfl) (OTs.cons a1 (OTs.cons (OT.raw (v := .int .i64 c.config.top) rfl) (OTs.cons (OT.raw (v := .int .i64 c.config.seed) rfl) (OTs.cons (OT.raw (v := .int .i64 c.config.new) rfl) (OTs.cons a5 (OTs.cons (OT.raw (v := .int .u64 c.state) rfl) (OTs.cons a7 (OTs.cons (OT.raw (v := .int .i64 c.table.count) rfl) (OTs.cons (OT.raw (v := .int .i64 c.status) rfl) (OTs.nil))))))))))
 simpa only [eRequest, List.append_nil, List.nil_append] using this
theorem szRequest_ok {F : Nat → Adr} {c : LRequest} {left : Int} {h : H2} (hf : fitRequest c) (hl : 0 ≤ left ∧ left ≤ 1048576) : PW Tryz.prog W0 157 [.st (xRequest F c), .raw (.int .i64 left)] h (fun y => ∃ k : Int, y = .raw (.int .i64 k) ∧ (0 ≤ k → (szRequest c : Int) + k ≤ left)) := by
 unfold fitRequest at hf
 refine PW.scalar ?_
 refine begins [[0, 1], [1, 2], [1, 2], [], [1, 2], [1, 2], [], [1, 2], [1], [], [1]] Tryz.func157 rfl (rs := [.tmp 4]) rfl rfl ?_
 intro wf
 repeat (first | rw [ko] | rw [kr] | simp -dsimp -implicitDefEqProofs only [go_sem, rq1])
 refine pw_intro (szIntS_pw  hf.1 ⟨by omega, by omega⟩) ?_
 rintro _ n1 hn1 ⟨k1, rfl, hk1⟩
 repeat (first | rw [ko] | rw [kr] | simp -dsimp -implicitDefEqProofs only [go_sem, rq1])
 refine gz_dec (fun q1 => ?_) (fun q1 => ?_)
 ·repeat (first | rw [ko] | rw [kr] | simp -dsimp -implicitDefEqProofs only [go_sem])
  exact ⟨zale, ⟨_, rfl⟩, _, rfl, fun hh => by omega⟩
 repeat (first | rw [ko] | rw [kr] | simp -dsimp -implicitDefEqProofs only [go_sem, rq1])
 refine pw_intro (szConfig_ok (F := fun j => F (j + 2)) hf.2.1 ⟨by omega, by omega⟩) ?_
 rintro _ n2 hn2 ⟨k2, rfl, hk2⟩
 repeat (first | rw [ko] | rw [kr] | simp -dsimp -implicitDefEqProofs only [go_sem, rq1])
 refine gz_dec (fun q2 => ?_) (fun q2 => ?_)
 ·repeat (first | rw [ko] | rw [kr] | simp -dsimp -implicitDefEqProofs only [go_sem])
  exact ⟨zale, ⟨_, rfl⟩, _, rfl, fun hh => by omega⟩
 repeat (first | rw [ko] | rw [kr] | simp -dsimp -implicitDefEqProofs only [go_sem, rq1])
 refine pw_intro (szTable_ok (F := fun j => F (j + 7)) hf.2.2 ⟨by omega, by omega⟩) ?_
 rintro _ n4 hn4 ⟨k4, rfl, hk4⟩
 repeat (first | rw [ko] | rw [kr] | simp -dsimp -implicitDefEqProofs only [go_sem])
 refine gz_dec (fun q4 => ?_) (fun q4 => ?_)
 ·repeat (first | rw [ko] | rw [kr] | simp -dsimp -implicitDefEqProofs only [go_sem])
  exact ⟨zale, ⟨_, rfl⟩, _, rfl, fun hh => by omega⟩
 repeat (first | rw [ko] | rw [kr] | simp -dsimp -implicitDefEqProofs only [go_sem, rq1])
 exact ⟨zale, ⟨_, rfl⟩, _, rfl, fun hh => by unfold szRequest; omega⟩
theorem eqRequest_ok {F F' : Nat → Adr} {c : LRequest} {h : H2} (hf : fitRequest c) : PW Tryz.prog W0 167 [.st (xRequest F c), .st (xRequest F' c)] h (fun y => y = .raw (.bool true)) := by
 unfold fitRequest at hf
 refine PW.scalar ?_
 refine begins [[0, 1], [2, 3], [], [2, 3], [], [2, 3], [], [2, 3], [], [2, 3], [], [2, 3], [], []] Tryz.func167 rfl (rs := [.tmp 4]) rfl rfl ?_
 intro wf
 repeat (first | rw [ko] | rw [kr] | simp -dsimp -implicitDefEqProofs only [go_sem, rq1])
 refine pw_intro (eqIntS_pw  hf.1) ?_
 rintro _ n1 hn1 rfl
 repeat (first | rw [ko] | rw [kr] | simp -dsimp -implicitDefEqProofs only [go_sem, rq1])
 refine pw_intro (eqConfig_ok (F := fun j => F (j + 2)) (F' := fun j => F' (j + 2)) hf.2.1) ?_
 rintro _ n2 hn2 rfl
 repeat (first | rw [ko] | rw [kr] | simp -dsimp -implicitDefEqProofs only [go_sem, rq1])
 refine pw_intro (eqTable_ok (F := fun j => F (j + 7)) (F' := fun j => F' (j + 7)) hf.2.2) ?_
 rintro _ n4 hn4 rfl
 repeat (first | rw [ko] | rw [kr] | simp -dsimp -implicitDefEqProofs only [go_sem, rq1])
 exact ⟨zale, ⟨_, rfl⟩, rfl⟩
structure LAsk where
 op : Int
 text : ByteArray
 pos : Int
 config : LConfig
 picks : List Int
instance : Inhabited LAsk := ⟨⟨default, default, default, default, default⟩⟩
end Go.Bi
end
section
set_option maxRecDepth 20000
namespace Go.Bi
open Go.Proofs
open Go.Ai (wrap_i64 wrap_u8)
variable {W0 : World}
theorem toConfig_ok {F : Nat → Adr} {c : LConfig} {h : H2} (hs : szConfig c ≤ 1048576) : NewS Tryz.prog W0 39 [.st (xConfig F c)] h (eConfig c) := by
 unfold szConfig at hs
 refine begins [[0], [1, 2], [1, 2, 3], [1, 2, 3], [1, 2, 3], [1, 2, 3], [2, 3]] Tryz.func39 rfl (rs := [.cell 2 49]) rfl rfl ?_
 intro wf
 repeat (first | rw [ko] | rw [kr] | simp -dsimp -implicitDefEqProofs only [go_sem, rq1])
 refine wz_intro (toStringS_new  (by omega)) ?_
 rintro s3 g3 ⟨l3, b3, o3, bl3⟩
 have ce3 := OT.cell o3
 have n3 := l3.n
 have a30 := l3.2 (hn h .mk) (by simp only [hn_push, hn_set]; omega)
 have a31 := l3.2 (hn h .mk + 1) (by simp only [hn_push, hn_set]; omega)
 have a32 := l3.2 (hn h .mk + 1 + 1) (by simp only [hn_push, hn_set]; omega)
 simp -dsimp -implicitDefEqProofs only [go_sem, hoo] at n3 a30 a31 a32
 have L3 : h.le g3 := H2.le.trans zale l3
 repeat (first | rw [ko] | rw [kr] | simp -dsimp -implicitDefEqProofs only [go_sem, rq1, rq2, a31, a32, ce3])
 refine ⟨zale, _, b3, rfl, outConfig (c := c) ?_, ?_⟩
 ·refine OT.frame o3 fun b hb => ?_
  have hbl := bl3.2 b (hb)
  simp only [hn_push, hn_set] at hbl
  simp only [H2.set]
  rw [if_neg (by omega), if_neg (by omega)]
 ·simp only [hn_set]
  have m3 := bl3
  simp only [hn_push, hn_set] at m3
  have := (m3).wide (N' := hn h .mk) (by omega) (Nat.le_refl _)
  simpa only [List.append_assoc] using this
theorem toTable_ok {F : Nat → Adr} {c : LTable} {h : H2} (hs : szTable c ≤ 1048576) : NewS Tryz.prog W0 219 [.st (xTable F c)] h (eTable c) := by
 unfold szTable at hs
 refine begins [[0], [1, 2], [1, 2, 3], [1, 2, 3], [2, 3]] Tryz.func219 rfl (rs := [.cell 2 100]) rfl rfl ?_
 intro wf
 repeat (first | rw [ko] | rw [kr] | simp -dsimp -implicitDefEqProofs only [go_sem])
 refine wz_intro (toIntS_new  (by omega)) ?_
 rintro s0 g0 ⟨l0, b0, o0, bl0⟩
 have ce0 := OT.cell o0
 have n0 := l0.n
 have a00 := l0.2 (hn h .mk) (by simp only [hn_push]; omega)
 have a01 := l0.2 (hn h .mk + 1) (by simp only [hn_push]; omega)
 have a02 := l0.2 (hn h .mk + 1 + 1) (by simp only [hn_push]; omega)
 simp -dsimp -implicitDefEqProofs only [go_sem, hoo] at n0 a00 a01 a02
 have L0 : h.le g0 := H2.le.trans zale l0
 repeat (first | rw [ko] | rw [kr] | simp -dsimp -implicitDefEqProofs only [go_sem, rq1, rq2, a00, a01, a02, ce0])
 refine ⟨zale, _, b0, rfl, outTable (c := c) ?_, ?_⟩
 ·refine OT.frame o0 fun b hb => ?_
  have hbl := bl0.2 b (hb)
  simp only [hn_push] at hbl
  simp only [H2.set]
  rw [if_neg (by omega), if_neg (by omega)]
 ·simp only [hn_set]
  have m0 := bl0
  simp only [hn_push] at m0
  have := (m0).wide (N' := hn h .mk) (by omega) (Nat.le_refl _)
  simpa only [List.append_assoc] using this
theorem toRequest_ok {F : Nat → Adr} {c : LRequest} {h : H2} (hs : szRequest c ≤ 1048576) : NewS Tryz.prog W0 165 [.st (xRequest F c)] h (eRequest c) := by
 unfold szRequest at hs
 refine begins [[0], [1, 2], [1, 2, 3], [1, 2, 3], [1, 2, 3], [1, 2, 3], [1, 2, 3], [1, 2, 3], [2, 3]] Tryz.func165 rfl (rs := [.cell 2 102]) rfl rfl ?_
 intro wf
 repeat (first | rw [ko] | rw [kr] | simp -dsimp -implicitDefEqProofs only [go_sem, rq1])
 refine wz_intro (toIntS_new  (by omega)) ?_
 rintro s1 g1 ⟨l1, b1, o1, bl1⟩
 have ce1 := OT.cell o1
 have n1 := l1.n
 have a10 := l1.2 (hn h .mk) (by simp only [hn_push, hn_set]; omega)
 have a11 := l1.2 (hn h .mk + 1) (by simp only [hn_push, hn_set]; omega)
 have a12 := l1.2 (hn h .mk + 1 + 1) (by simp only [hn_push, hn_set]; omega)
 simp -dsimp -implicitDefEqProofs only [go_sem, hoo] at n1 a10 a11 a12
 have L1 : h.le g1 := H2.le.trans zale l1
 repeat (first | rw [ko] | rw [kr] | simp -dsimp -implicitDefEqProofs only [go_sem, rq1, a10, a12, ce1])
 refine wz_intro (toConfig_ok (F := fun j => F (j + 2)) (by omega)) ?_
 rintro _ g2 ⟨l2, ys2, b2, rfl, o2, bl2⟩
 obtain ⟨b2_3, s5, rfl, hb2, o2_3⟩ := invConfig o2
 have ce5 := OT.cell o2_3
 have n2 := l2.n
 have a20 := l2.2 (hn h .mk) (by simp only [hn_set]; omega)
 have a21 := l2.2 (hn h .mk + 1) (by simp only [hn_set]; omega)
 have a22 := l2.2 (hn h .mk + 1 + 1) (by simp only [hn_set]; omega)
 simp -dsimp -implicitDefEqProofs only [go_sem, a10, a11, hoo] at n2 a20 a21 a22
 have L2 : h.le g2 := H2.le.trans zale l2
 repeat (first | rw [ko] | rw [kr] | simp -dsimp -implicitDefEqProofs only [go_sem, rq1, rq2, a20, a22, ce5])
 refine wz_intro (toTable_ok (F := fun j => F (j + 7)) (by omega)) ?_
 rintro _ g4 ⟨l4, ys4, b4, rfl, o4, bl4⟩
 obtain ⟨b4_0, s7, rfl, hb4, o4_0⟩ := invTable o4
 have ce7 := OT.cell o4_0
 have n4 := l4.n
 have a40 := l4.2 (hn h .mk) (by simp only [hn_set]; omega)
 have a41 := l4.2 (hn h .mk + 1) (by simp only [hn_set]; omega)
 have a42 := l4.2 (hn h .mk + 1 + 1) (by simp only [hn_set]; omega)
 simp -dsimp -implicitDefEqProofs only [go_sem, a20, a21, hoo] at n4 a40 a41 a42
 have L4 : h.le g4 := H2.le.trans zale l4
 repeat (first | rw [ko] | rw [kr] | simp -dsimp -implicitDefEqProofs only [go_sem, rq1, rq2, a40, a41, a42, ce1, ce5, ce7])
 refine ⟨zale, _, b1 ++ (b2_3 ++ b4_0), rfl, outRequest (c := c) ?_ ?_ ?_, ?_⟩
 ·refine OT.frame o1 fun b hb => ?_
  have hbl := bl1.2 b (hb)
  simp only [hn_push, hn_set] at hbl
  simp only [H2.set]
  rw [if_neg (by omega), if_neg (by omega)]
  rw [show g4.get b = _ from l4.2 b (by simp only [hn_set]; omega)]
  simp only [hg, H2.set]
  rw [if_neg (by omega)]
  rw [show g2.get b = _ from l2.2 b (by simp only [hn_set]; omega)]
  simp only [hg, H2.set]
  rw [if_neg (by omega)]
 ·refine OT.frame o2_3 fun b hb => ?_
  have hbl := bl2.2 b (by rw [hb2]; simp [hb])
  simp only [hn_set] at hbl
  simp only [H2.set]
  rw [if_neg (by omega), if_neg (by omega)]
  rw [show g4.get b = _ from l4.2 b (by simp only [hn_set]; omega)]
  simp only [hg, H2.set]
  rw [if_neg (by omega)]
 ·refine OT.frame o4_0 fun b hb => ?_
  have hbl := bl4.2 b (by rw [hb4]; simp [hb])
  simp only [hn_set] at hbl
  simp only [H2.set]
  rw [if_neg (by omega), if_neg (by omega)]
 ·simp only [hn_set]
  have m1 := bl1
  simp only [hn_push, hn_set] at m1
  have m2 := bl2
  simp only [hn_set] at m2
  rw [hb2] at m2
  have m4 := bl4
  simp only [hn_set] at m4
  rw [hb4] at m4
  have := ((Bl.append m1 (Bl.append m2 m4 (by omega) (by omega)) (by omega) (by omega))).wide (N' := hn h .mk) (by omega) (Nat.le_refl _)
  simpa only [List.append_assoc] using this
end Go.Bi
end
section
namespace Go.Bi
open Go.Ai (plainS)
theorem getD_mem {α : Type} [Inhabited α] {l : List α} {i : Nat} (h : i < l.length) : l.getD i default ∈ l := by
 rw [List.getD_eq_getElem?_getD, List.getElem?_eq_getElem h]; exact List.getElem_mem h
theorem take_next {α : Type} [Inhabited α] {l : List α} {i : Nat} (h : i < l.length) : l.take (i + 1) = l.take i ++ [l.getD i default] := by
 rw [List.take_succ_eq_append_getElem h, List.getD_eq_getElem?_getD, List.getElem?_eq_getElem h]; rfl
def sumN {α : Type} (f : α → Nat) : List α → Nat
 | [] => 0
 | x :: l => f x + sumN f l
theorem sumN_append {α : Type} {f : α → Nat} : ∀ {l m : List α}, sumN f (l ++ m) = sumN f l + sumN f m
 | [], _ => by simp [sumN]
 | x :: l, m => by simp only [List.cons_append, sumN, sumN_append]; omega
theorem sumN_take {α : Type} [Inhabited α] {f : α → Nat} {l : List α} {i : Nat} (h : i < l.length) : sumN f (l.take (i + 1)) = sumN f (l.take i) + f (l.getD i default) := by
 rw [take_next h, sumN_append]; simp [sumN]
theorem sumN_mem {α : Type} {f : α → Nat} {x : α} : ∀ {l : List α}, x ∈ l → f x ≤ sumN f l
 | y :: l, h => by
  rcases List.mem_cons.1 h with rfl | h
  ·simp only [sumN]; omega
  ·have := sumN_mem (f := f) h; simp only [sumN]; omega
theorem up_self {h : H2} : h = h.up (hn h .mk) := rfl
theorem OTs.append {g : H2} : ∀ {bs bs' : List Nat} {xs ys : List X} {ts us : List T}, OTs g bs xs ts → OTs g bs' ys us → OTs g (bs ++ bs') (xs ++ ys) (ts ++ us)
 | _, _, _, _, _, _, .nil, h => by simpa using h
 | _, _, _, _, _, _, .cons a b, h => by
  have := OTs.cons a (OTs.append b h)
  simpa only [List.append_assoc, List.cons_append] using this
theorem OT.okx {g : H2} {bs : List Nat} {x : X} {t : T} (o : OT g bs x t) : okX x = true ∧ cellsX x = some [x] := by
 cases o with
 | raw hp => rename_i v; cases v <;> first | exact ⟨rfl, rfl⟩ | simp [plainS] at hp
 | nil => exact ⟨rfl, rfl⟩
 | row => exact ⟨rfl, rfl⟩
theorem OTs.okx {g : H2} : ∀ {bs : List Nat} {xs : List X} {ts : List T}, OTs g bs xs ts → xs.all okX = true
 | _, _, _, .nil => rfl
 | _, _, _, .cons a b => by simp only [List.all_cons, a.okx.1, b.okx, Bool.and_self]
theorem OTs.one {g : H2} {bs : List Nat} {x : X} {t : T} (o : OT g bs x t) : OTs g bs [x] [t] := by
 have := OTs.cons o OTs.nil
 simpa using this
theorem flat_next {α : Type} [Inhabited α] {E : α → List T} {l : List α} {i : Nat} (h : i < l.length) : ((l.take (i + 1)).map E).flatten = ((l.take i).map E).flatten ++ E (l.getD i default) := by
 rw [take_next h]; simp
theorem wrt_next {cs ys : List X} {k n z : Nat} (hc : cs.length = n * z) (hk : k < n) (hy : ys.length = z) : wrtL cs (k * z) ys = some (cs.take (k * z) ++ ys ++ cs.drop (k * z + z)) ∧ (cs.take (k * z) ++ ys ++ cs.drop (k * z + z)).length = n * z ∧ (cs.take (k * z) ++ ys ++ cs.drop (k * z + z)).take ((k + 1) * z) = cs.take (k * z) ++ ys := by
 have h1 : k * z + z ≤ n * z := by rw [← Nat.succ_mul]; exact Nat.mul_le_mul_right z hk
 refine ⟨?_, ?_, ?_⟩
 ·simp only [wrtL, hy]; rw [if_pos (by omega)]
 ·simp only [List.length_append, List.length_take, List.length_drop, hy]; omega
 ·rw [List.take_append_of_le_length (by simp only [List.length_append, List.length_take, hy, Nat.succ_mul]; omega)]
  rw [List.take_of_length_le (by simp only [List.length_append, List.length_take, hy, Nat.succ_mul]; omega)]
theorem OT.full {g : H2} {b z : Nat} {bs : List Nat} {cs : List X} {α : Type} {E : α → List T} {l : List α} (hE : ∀ a, (E a).length = z) (hb : hg g b .mk = some ⟨z, cs⟩) (hc : cs.length = l.length * z) (o : OTs g bs (cs.take (l.length * z)) ((l.take l.length).map E).flatten) (bl : Bl (b + 1) (hn g .mk) bs) (hlt : b < hn g .mk) :
  OT g (b :: bs) (.raw (.slice (some ⟨b, 0, none⟩) l.length l.length)) (.l z (l.map E)) ∧ Bl b (hn g .mk) (b :: bs) := by
 refine ⟨.row hb hc (by simp) (fun e he => ?_) ?_, ?_⟩
 ·obtain ⟨a, _, rfl⟩ := List.mem_map.1 he; exact hE a
 ·rw [List.take_of_length_le (by omega), List.take_of_length_le (Nat.le_refl _)] at o; exact o
 ·refine ⟨List.nodup_cons.2 ⟨fun h => by have := (bl.2 b h).1; omega, bl.1⟩, fun x hx => ?_⟩
  rcases List.mem_cons.1 hx with rfl | hx
  ·omega
  ·have := bl.2 x hx; omega
end Go.Bi
end
