/- Own lemmas that the theorem of this claim needs: the abstract machine and walks of functions. -/
import Derived.Test.YtjofbadmkigkjaaGreatNnLawAA
import Derived.Test.YtjofbadmkigkjaaGreatNnLawAB
import Derived.Test.YtjofbadmkigkjaaGreatNnLawAC
import Derived.Test.YtjofbadmkigkjaaGreatNnLawAD
import Derived.Test.YtjofbadmkigkjaaGreatNnLawAE
import Derived.Test.YtjofbadmkigkjaaGreatNnLawAF
open Nat renaming reduceBEq → rq1, reduceAdd → rq2, reduceLeDiff → rq3, reduceMul → rq4
open Int renaming reduceLE → rq5, reduceLT → rq6, reduceBEq → rq7
section
set_option linter.unusedSimpArgs false
set_option linter.unusedVariables false
set_option maxRecDepth 20000
namespace Go.Bi
open Go.Proofs
open Go.Ai (wrap_i64 wrap_u8)
variable {W0 : World}
theorem hoo (x : Nat) : (x == x) = true := by simp
theorem nat_nn (k : Nat) : ((0 : Int) ≤ (k : Int)) = True := eq_true (Int.natCast_nonneg k)
theorem wrap_succ {k n : Nat} (hk : k < n) (hn : n ≤ 9223372036854775807) : IntKind.i64.wrap ((k : Int) + 1) = ((k + 1 : Nat) : Int) := by rw [wrap_i64] <;> omega
theorem hbo (b : ByteArray) : (b.toList == b.toList) = true := by simp
attribute [go_sem] hoo hbo nat_nn Int.toNat_natCast eq_self not_true_eq_false Int.natCast_zero true_and and_true
variable {P : Program} {K : KT}
def isU8 : Option Go.Ai.Cls → Bool
  | some (.int .u8) => true
  | _ => false
theorem isU8_t : isU8 (some (.int .u8)) = true := rfl
def strO (o : Option (List UInt8)) (h : H2) : Option (X × H2) := match o with | some bs => some (.raw (.string ⟨bs.toArray⟩), h) | none => none
theorem strO_some {bs : List UInt8} {h : H2} : strO (some bs) h = some (.raw (.string ⟨bs.toArray⟩), h) := rfl
theorem cv_src {s d : TypeId} {h : H2} {x : X} {n : Nat} {l : List X} (hs : Go.Ai.cls? P s = some .sl) (hd : Go.Ai.cls? P d = some .str) (he : (Go.Ai.elt? P s).isSome = true) (hz : (Go.Ai.eltZ (Go.Ai.elt? P s) == 1) = true) (hc : isU8 (Go.Ai.cls? P (Go.Ai.eltT (Go.Ai.elt? P s))) = true)
    (hx : srcX h 1 x = some (n, l)) : convz P h s d x .mk = strO (bytesX l) h := by
  simp only [convz, convX, hs, hd]
  cases hq : Go.Ai.elt? P s with
  | none => rw [hq] at he; cases he
  | some q =>
    obtain ⟨u, z, b⟩ := q
    rw [hq] at hz hc
    simp only [Go.Ai.eltZ, beq_iff_eq] at hz
    subst hz
    simp only [hx]
    simp only [Go.Ai.eltT] at hc
    cases hu : Go.Ai.cls? P u with
    | none => rw [hu] at hc; cases hc
    | some c =>
      rw [hu] at hc
      cases c <;> try cases hc
      rename_i k
      cases k <;> try cases hc
      cases bytesX l <;> rfl
theorem cv_bytes {s d : TypeId} {h : H2} {f : Adr} {es : List (List T)} (hs : Go.Ai.cls? P s = some .sl) (hd : Go.Ai.cls? P d = some .str) (he : (Go.Ai.elt? P s).isSome = true) (hz : (Go.Ai.eltZ (Go.Ai.elt? P s) == 1) = true) (hc : isU8 (Go.Ai.cls? P (Go.Ai.eltT (Go.Ai.elt? P s))) = true) :
    convz P h s d (.sl f 1 es) .mk = strO (bytesX (flatX f 0 es)) h := cv_src hs hd he hz hc rfl
theorem flat_nil {f : Adr} {i : Nat} : flatX f i [] = [] := rfl
theorem flat_cons {f : Adr} {i : Nat} {e : List T} {r : List (List T)} : flatX f i (e :: r) = mkL (under f i) 0 e ++ flatX f (i + 1) r := rfl
def byO (b : UInt8) (o : Option (List UInt8)) : Option (List UInt8) := match o with | some r => some (b :: r) | none => none
theorem byO_some {b : UInt8} {r : List UInt8} : byO b (some r) = some (b :: r) := rfl
theorem by_nil : bytesX [] = some [] := rfl
theorem by_cons {x : Int} {l : List X} : bytesX (.raw (.int .u8 x) :: l) = byO (UInt8.ofNat x.toNat) (bytesX l) := by simp only [bytesX, Go.Ai.byteV, byO]; cases bytesX l <;> rfl
attribute [go_sem] isU8_t strO_some cv_bytes flat_nil flat_cons byO_some by_nil by_cons List.cons_append List.nil_append
def inI (x a b : Int) : Bool := decide (a ≤ x) && decide (x ≤ b)
theorem l01In_ok {x a b : Int} {h : H2} : WC2 Tryz.prog W0 52 [.raw (.int .i64 x), .raw (.int .i64 a), .raw (.int .i64 b)] h (fun v h' => v = .raw (.bool (inI x a b)) ∧ h' = h) := by
  refine start (P := Tryz.prog) [[0, 1, 2], [0, 1, 2]] (by kernel_rfl) Tryz.func52 rfl (by decide) (by decide +kernel) (rs := [.tmp 6]) rfl rfl (Nat.le_of_ble_eq_true rfl) ?_
  intro wf
  repeat (first | rw [kz_o] | rw [kz_r0] | simp -dsimp -implicitDefEqProofs only [go_sem, rq1, rq2, rq3, rq4, rq5, rq6, rq7])
  refine gz_dec (fun h1 => ?_) (fun h1 => ?_)
  · repeat (first | rw [kz_o] | rw [kz_r0] | simp -dsimp -implicitDefEqProofs only [go_sem, rq1, rq2, rq3, rq4, rq5, rq6, rq7, h1])
    exact ⟨by simp [inI, h1], rfl⟩
  · repeat (first | rw [kz_o] | rw [kz_r0] | simp -dsimp -implicitDefEqProofs only [go_sem, rq1, rq2, rq3, rq4, rq5, rq6, rq7, h1])
    exact ⟨by simp [inI, h1], rfl⟩
theorem in_ok {x a b : Int} {h : H2} : WC2 Tryz.prog W0 49 [.raw (.int .i64 x), .raw (.int .i64 a), .raw (.int .i64 b)] h (fun v h' => v = .raw (.bool (inI x a b)) ∧ h' = h) := by
  refine start (P := Tryz.prog) [[0, 1, 2], [0, 1, 2]] (by kernel_rfl) Tryz.func49 rfl (by decide) (by decide +kernel) (rs := [.tmp 6]) rfl rfl (Nat.le_of_ble_eq_true rfl) ?_
  intro wf
  repeat (first | rw [kz_o] | rw [kz_r0] | simp -dsimp -implicitDefEqProofs only [go_sem, rq1, rq2, rq3, rq4, rq5, rq6, rq7])
  refine gz_dec (fun h1 => ?_) (fun h1 => ?_)
  · repeat (first | rw [kz_o] | rw [kz_r0] | simp -dsimp -implicitDefEqProofs only [go_sem, rq1, rq2, rq3, rq4, rq5, rq6, rq7, h1])
    exact ⟨by simp [inI, h1], rfl⟩
  · repeat (first | rw [kz_o] | rw [kz_r0] | simp -dsimp -implicitDefEqProofs only [go_sem, rq1, rq2, rq3, rq4, rq5, rq6, rq7, h1])
    exact ⟨by simp [inI, h1], rfl⟩
theorem indexI_ok {F : FuncId} {p : Int → Bool} {caps : List Value} {f : Adr} {ss : List Int} {h : H2} (hn0 : ss.length ≤ 9223372036854775807)
    (hf : ∀ s, WC2 Tryz.prog W0 F ([.raw (.int .i64 s)] ++ caps.map .raw) h (fun v h' => v = .raw (.bool (p s)) ∧ h' = h)) :
    WC2 Tryz.prog W0 214 [.sl f 1 (ints ss), .raw (.func (.func F) #[] caps.toArray)] h (fun v h' => (∃ k : Int, v = .raw (.int .i64 k) ∧ decide (0 ≤ k) = ss.any p) ∧ h' = h) := by
  refine start (P := Tryz.prog) [[0, 1], [0, 1], [0, 1, 7, 8], [0, 1, 7, 8], [0, 1, 5, 7, 8], [5], [0, 1, 7, 8], []] (by kernel_rfl) Tryz.func214 rfl (by decide) (by decide +kernel) (rs := [.tmp 4]) rfl rfl (Nat.le_of_ble_eq_true rfl) ?_
  intro wf
  repeat (first | rw [kz_o] | rw [kz_r0] | simp -dsimp -implicitDefEqProofs only [go_sem, rq1, rq2, rq3, rq4, rq5, rq6, rq7])
  refine lz_intro (fun m e h' => h' = h ∧ look e 0 .mk = .sl f 1 (ints ss) ∧ look e 1 .mk = .raw (.func (.func F) #[] caps.toArray) ∧ look e 7 .mk = .raw (.int .i64 ss.length) ∧ ∃ k : Nat, look e 8 .mk = .raw (.int .i64 k) ∧ m + k = ss.length ∧ ∀ j : Nat, j < k → p (ss.getD j default) = false) ss.length ?_ ?_
  · refine ⟨rfl, ?_, ?_, ?_, 0, ?_, by omega, fun j hj => by omega⟩ <;> simp -dsimp -implicitDefEqProofs only [go_sem, rq1, rq2, rq3, rq4, rq5, rq6, rq7, Int.natCast_zero]
  · rintro m e h ⟨rfl, e0, e1, e7, k, e8, hk, hpre⟩
    repeat (first | rw [kz_o] | rw [kz_r0] | simp -dsimp -implicitDefEqProofs only [go_sem, rq1, rq2, rq3, rq4, rq5, rq6, rq7, e0, e1, e7, e8])
    refine gz_dec (fun h2 => ?_) (fun h2 => ?_)
    · have h3 : k < ss.length := by omega
      repeat (first | rw [kz_o] | rw [kz_r0] | simp -dsimp -implicitDefEqProofs only [go_sem, rq1, rq2, rq3, rq4, rq5, rq6, rq7, e0, e1, e7, e8, nat_nn, Int.toNat_natCast, h3])
      refine wz_intro (hf _) ?_
      rintro _ h' ⟨rfl, rfl⟩
      repeat (first | rw [kz_o] | rw [kz_r0] | simp -dsimp -implicitDefEqProofs only [go_sem, rq1, rq2, rq3, rq4, rq5, rq6, rq7, e0, e1, e7, e8])
      refine gz_intro (fun h4 => ?_) (fun h4 => ?_)
      · repeat (first | rw [kz_o] | rw [kz_r0] | simp -dsimp -implicitDefEqProofs only [go_sem, rq1, rq2, rq3, rq4, rq5, rq6, rq7, e0, e1, e7, e8])
        refine ⟨⟨_, rfl, ?_⟩, rfl⟩
        have : ss.any p = true := List.any_eq_true.2 ⟨_, List.getElem_mem h3, by rw [List.getD_eq_getElem?_getD, List.getElem?_eq_getElem h3] at h4; exact h4⟩
        rw [this]; simp
      · repeat (first | rw [kz_o] | rw [kz_r0] | simp -dsimp -implicitDefEqProofs only [go_sem, rq1, rq2, rq3, rq4, rq5, rq6, rq7, e0, e1, e7, e8, wrap_succ h3 hn0])
        refine ⟨m - 1, by omega, rfl, ?_, ?_, ?_, k + 1, ?_, by omega, ?_⟩
        · simp -dsimp -implicitDefEqProofs only [go_sem, rq1, rq2, rq3, rq4, rq5, rq6, rq7]
        · simp -dsimp -implicitDefEqProofs only [go_sem, rq1, rq2, rq3, rq4, rq5, rq6, rq7]
        · simp -dsimp -implicitDefEqProofs only [go_sem, rq1, rq2, rq3, rq4, rq5, rq6, rq7]
        · simp -dsimp -implicitDefEqProofs only [go_sem, rq1, rq2, rq3, rq4, rq5, rq6, rq7]
        · intro j hj
          by_cases hji : j = k
          · subst hji; exact h4
          · exact hpre j (by omega)
    · repeat (first | rw [kz_o] | rw [kz_r0] | simp -dsimp -implicitDefEqProofs only [go_sem, rq1, rq2, rq3, rq4, rq5, rq6, rq7, e0, e1, e7, e8])
      refine ⟨⟨_, rfl, ?_⟩, rfl⟩
      have : ss.any p = false := by
        rw [List.any_eq_false]
        intro x hx
        obtain ⟨j, hj, rfl⟩ := List.getElem_of_mem hx
        have := hpre j (by omega)
        rw [List.getD_eq_getElem?_getD, List.getElem?_eq_getElem hj] at this
        simpa using this
      rw [this]; rfl
end Go.Bi
end
section
set_option linter.unusedSimpArgs false
set_option linter.unusedVariables false
set_option maxRecDepth 20000
namespace Go.Bi
open Go.Proofs
open Go.Ai (wrap_i64 wrap_u8)
variable {W0 : World}
variable {P : Program} {D : Nat → Option (List Nat)} {e : E2} {K : KT}
theorem make_intro {h : H2} {t u z y : Nat} {zs : List Value} {l : Int} (he : Ai.elt? P t = some (u, z, y)) (hz : Ai.zr? P u = some zs) (h1 : zs.length = z ∧ 0 < z) (h2 : 0 ≤ l ∧ l.toNat * (y + 1) ≤ Ai.most)
    (hk : kz K (.raw (.slice (some ⟨hn h .mk, 0, none⟩) l.toNat l.toNat)) (h.push ⟨z, (Ai.repL l.toNat zs).map .raw⟩) .mk) : az (makez P h t (.raw (.int .i64 l)) (.raw (.int .i64 l)) .mk) K .mk := by
  have : makez P h t (.raw (.int .i64 l)) (.raw (.int .i64 l)) .mk = some (.raw (.slice (some ⟨h.n, 0, none⟩) l.toNat l.toNat), h.push ⟨z, (Ai.repL l.toNat zs).map .raw⟩) := by
    simp only [makez, makeSliceX, he, hz]
    rw [if_pos ⟨h1.1, h1.2, trivial, h2.1, h2.2⟩]
  rw [this]; exact hk
theorem wrt_set {cs : List X} {o : Nat} {v : X} (ho : o < cs.length) : wrtL cs o [v] = some (cs.set o v) := by
  simp only [wrtL, List.length_cons, List.length_nil]
  rw [if_pos (by omega)]
  congr 1
  rw [List.set_eq_take_append_cons_drop, if_pos ho]
  simp
theorem H2.le_push1 (h : H2) (k : OB) : h.le (h.push k) := le_push (H2.le.refl h)
theorem set_push {h : H2} {k k' : OB} : (h.push k).set (hn h .mk) k' = h.push k' := by
  unfold H2.set H2.push hn; congr 1; funext x; by_cases hx : x = h.n <;> simp [hx]
theorem set_set {h : H2} {b : Nat} {k k' : OB} : (h.set b k).set b k' = h.set b k' := by
  unfold H2.set; congr 1; funext x; by_cases hx : x = b <;> simp [hx]
def eS (s : ByteArray) : List T := [.v (.string s)]
theorem eS_def {s : ByteArray} : eS s = [.v (.string s)] := rfl
def strs (ss : List ByteArray) : List (List T) := ss.map eS
theorem strs_len {ss : List ByteArray} : (strs ss).length = ss.length := by simp [strs]
theorem strs_el {ss : List ByteArray} {i : Nat} (hi : i < ss.length) : el (strs ss) i = eS (ss.getD i default) := el_map hi
attribute [go_sem] eS_def strs_len strs_el set_push set_set
theorem szIntS_ok {f : Adr} {zs : List Int} {left : Int} {h : H2} (hn0 : zs.length ≤ 9223372036854775807) (hl : 0 ≤ left ∧ left ≤ 1048576) : WC2 Tryz.prog W0 74 [.sl f 1 (ints zs), .raw (.int .i64 left)] h (fun v h' => (∃ k : Int, v = .raw (.int .i64 k) ∧ (0 ≤ k → (zs.length : Int) + k ≤ left)) ∧ h' = h) := by
  have hw : IntKind.i64.wrap (left - zs.length) = left - zs.length := by rw [wrap_i64] <;> omega
  refine start (P := Tryz.prog) [[0, 1], [0, 1], [1], [], [1]] (by kernel_rfl) Tryz.func74 rfl (by decide) (by decide +kernel) (rs := [.tmp 4]) rfl rfl (Nat.le_of_ble_eq_true rfl) ?_
  intro wf
  repeat (first | rw [kz_o] | rw [kz_r0] | simp -dsimp -implicitDefEqProofs only [go_sem, rq1, rq2, rq3, rq4, rq5, rq6, rq7, hw])
  refine gz_dec (fun h1 => ?_) (fun h1 => ?_)
  · repeat (first | rw [kz_o] | rw [kz_r0] | simp -dsimp -implicitDefEqProofs only [go_sem, rq1, rq2, rq3, rq4, rq5, rq6, rq7])
    exact ⟨⟨_, rfl, fun hh => by omega⟩, rfl⟩
  · repeat (first | rw [kz_o] | rw [kz_r0] | simp -dsimp -implicitDefEqProofs only [go_sem, rq1, rq2, rq3, rq4, rq5, rq6, rq7])
    exact ⟨⟨_, rfl, fun hh => by omega⟩, rfl⟩
theorem toIntS_ok {f : Adr} {zs : List Int} {h : H2} (hn0 : zs.length ≤ 1048576) :
    WC2 Tryz.prog W0 38 [.sl f 1 (ints zs)] h (fun v h' => h.le h' ∧ Own (hn h .mk) h' v 1 zs.length (zs.map (fun (z : Int) => X.raw (.int .i64 z)))) := by
  refine start (P := Tryz.prog) [[0], [0], [0, 3], [0, 3, 4], [0, 3, 4], [0, 3, 4], [3]] (by kernel_rfl) Tryz.func38 rfl (by decide) (by decide +kernel) (rs := [.tmp 2]) rfl rfl (Nat.le_of_ble_eq_true rfl) ?_
  intro wf
  repeat (first | rw [kz_o] | rw [kz_r0] | simp -dsimp -implicitDefEqProofs only [go_sem, rq1, rq2, rq3, rq4, rq5, rq6, rq7])
  refine make_intro Ai.ty_el27 Ai.ty_zr3 (by decide) ⟨by omega, by simp only [Int.toNat_natCast]; have : Ai.most = 1099511627776 := rfl; omega⟩ ?_
  repeat (first | rw [kz_o] | rw [kz_r0] | simp -dsimp -implicitDefEqProofs only [go_sem, rq1, rq2, rq3, rq4, rq5, rq6, rq7])
  refine lz_keep [0, 3] (fun m e h' => ∃ (k : Nat) (cs : List X), look e 4 .mk = .raw (.int .i64 k) ∧ m + k = zs.length ∧ h' = h.push ⟨1, cs⟩ ∧ cs.length = zs.length ∧ ∀ j : Nat, j < k → cs[j]? = (zs.map (fun (z : Int) => X.raw (.int .i64 z)))[j]?) zs.length ?_ ?_
  · exact ⟨0, _, by simp -dsimp -implicitDefEqProofs only [go_sem, rq1, rq2, rq3, rq4, rq5, rq6, rq7, Int.natCast_zero], by omega, rfl, by simp [Ai.rep_one], fun j hj => by omega⟩
  · rintro m e h' hks ⟨k, cs, e4, hk, rfl, hcs, hpre⟩
    simp -dsimp -implicitDefEqProofs only [go_sem, rq1, rq2, rq3, rq4, rq5, rq6, rq7, Int.toNat_natCast] at hks
    repeat (first | rw [kz_o] | rw [kz_r0] | simp -dsimp -implicitDefEqProofs only [go_sem, rq1, rq2, rq3, rq4, rq5, rq6, rq7, hks, e4])
    refine gz_dec (fun h2 => ?_) (fun h2 => ?_)
    · have h3 : k < zs.length := by omega
      have hw2 : wrtL cs k [.raw (.int .i64 (zs.getD k default))] = some (cs.set k (.raw (.int .i64 (zs.getD k default)))) := wrt_set (by omega)
      have hi2 : (0 : Int) ≤ (k : Int) ∧ (k : Int) < (zs.length : Int) := by omega
      repeat (first | rw [kz_o] | rw [kz_r0] | simp -dsimp -implicitDefEqProofs only [go_sem, rq1, rq2, rq3, rq4, rq5, rq6, rq7, hks, e4, nat_nn, Int.toNat_natCast, h3, hoo, hw2, hi2, wrap_succ h3 (by omega)])
      refine nx_keep (m - 1) (by omega) (by simp -dsimp -implicitDefEqProofs only [go_sem, rq1, rq2, rq3, rq4, rq5, rq6, rq7, hks]) ⟨k + 1, _, by simp -dsimp -implicitDefEqProofs only [go_sem, rq1, rq2, rq3, rq4, rq5, rq6, rq7], by omega, rfl, by simpa using hcs, ?_⟩
      intro j hj
      by_cases hji : j = k
      · subst hji
        rw [List.getElem?_set_self (by omega), List.getElem?_map, List.getD_eq_getElem?_getD, List.getElem?_eq_getElem h3]; rfl
      · rw [List.getElem?_set_ne (fun e => hji e.symm)]
        exact hpre j (by omega)
    · repeat (first | rw [kz_o] | rw [kz_r0] | simp -dsimp -implicitDefEqProofs only [go_sem, rq1, rq2, rq3, rq4, rq5, rq6, rq7, hks, e4])
      refine ⟨H2.le_push1 h _, ?_⟩
      have : cs = zs.map (fun (z : Int) => X.raw (.int .i64 z)) := by
        apply List.ext_getElem?
        intro j
        by_cases hj : j < k
        · exact hpre j hj
        · rw [List.getElem?_eq_none (by omega), List.getElem?_eq_none (by simp; omega)]
      rw [this]
      exact Own.new (Nat.le_refl _) (by simp)
theorem eqIntS_ok {f f' : Adr} {zs : List Int} {h : H2} (hn0 : zs.length ≤ 9223372036854775807) :
    WC2 Tryz.prog W0 41 [.sl f 1 (ints zs), .sl f' 1 (ints zs)] h (fun v h' => v = .raw (.bool true) ∧ h' = h) := by
  refine start (P := Tryz.prog) [[0, 1], [0, 1], [], [0, 1], [0, 1, 5], [0, 1, 5], [0, 1, 5], [], []] (by kernel_rfl) Tryz.func41 rfl (by decide) (by decide +kernel) (rs := [.tmp 4]) rfl rfl (Nat.le_of_ble_eq_true rfl) ?_
  intro wf
  repeat (first | rw [kz_o] | rw [kz_r0] | simp -dsimp -implicitDefEqProofs only [go_sem, rq1, rq2, rq3, rq4, rq5, rq6, rq7])
  refine lz_keep [0, 1] (fun m e h' => h' = h ∧ ∃ k : Nat, look e 5 .mk = .raw (.int .i64 k) ∧ m + k = zs.length) zs.length ?_ ?_
  · exact ⟨rfl, 0, by simp -dsimp -implicitDefEqProofs only [go_sem, rq1, rq2, rq3, rq4, rq5, rq6, rq7, Int.natCast_zero], by omega⟩
  · rintro m e h hks ⟨rfl, k, e5, hk⟩
    simp -dsimp -implicitDefEqProofs only [go_sem, rq1, rq2, rq3, rq4, rq5, rq6, rq7] at hks
    repeat (first | rw [kz_o] | rw [kz_r0] | simp -dsimp -implicitDefEqProofs only [go_sem, rq1, rq2, rq3, rq4, rq5, rq6, rq7, hks, e5])
    refine gz_dec (fun h2 => ?_) (fun h2 => ?_)
    · have h3 : k < zs.length := by omega
      repeat (first | rw [kz_o] | rw [kz_r0] | simp -dsimp -implicitDefEqProofs only [go_sem, rq1, rq2, rq3, rq4, rq5, rq6, rq7, hks, e5])
      refine dq_intro [(0, []), (1, []), (2, []), (3, []), (4, []), (5, []), (6, []), (7, []), (8, [])] (by kernel_rfl) ?_
      repeat (first | rw [kz_o] | rw [kz_r0] | simp -dsimp -implicitDefEqProofs only [go_sem, rq1, rq2, rq3, rq4, rq5, rq6, rq7, hks, e5, nat_nn, Int.toNat_natCast, h3, hoo, hbo, not_true_eq_false, wrap_succ h3 hn0])
      exact nx_keep (m - 1) (by omega) (by simp -dsimp -implicitDefEqProofs only [go_sem, rq1, rq2, rq3, rq4, rq5, rq6, rq7, hks]) ⟨rfl, k + 1, by simp -dsimp -implicitDefEqProofs only [go_sem, rq1, rq2, rq3, rq4, rq5, rq6, rq7], by omega⟩
    · repeat (first | rw [kz_o] | rw [kz_r0] | simp -dsimp -implicitDefEqProofs only [go_sem, rq1, rq2, rq3, rq4, rq5, rq6, rq7, hks, e5])
      exact ⟨rfl, rfl⟩
theorem toStringS_ok {f : Adr} {zs : List ByteArray} {h : H2} (hn0 : zs.length ≤ 1048576) :
    WC2 Tryz.prog W0 112 [.sl f 1 (strs zs)] h (fun v h' => h.le h' ∧ Own (hn h .mk) h' v 1 zs.length (zs.map (fun (z : ByteArray) => X.raw (.string z)))) := by
  refine start (P := Tryz.prog) [[0], [0], [0, 3], [0, 3, 4], [0, 3, 4], [0, 3, 4], [3]] (by kernel_rfl) Tryz.func112 rfl (by decide) (by decide +kernel) (rs := [.tmp 2]) rfl rfl (Nat.le_of_ble_eq_true rfl) ?_
  intro wf
  repeat (first | rw [kz_o] | rw [kz_r0] | simp -dsimp -implicitDefEqProofs only [go_sem, rq1, rq2, rq3, rq4, rq5, rq6, rq7])
  refine make_intro Ai.ty_el47 Ai.ty_zr9 (by decide) ⟨by omega, by simp only [Int.toNat_natCast]; have : Ai.most = 1099511627776 := rfl; omega⟩ ?_
  repeat (first | rw [kz_o] | rw [kz_r0] | simp -dsimp -implicitDefEqProofs only [go_sem, rq1, rq2, rq3, rq4, rq5, rq6, rq7])
  refine lz_keep [0, 3] (fun m e h' => ∃ (k : Nat) (cs : List X), look e 4 .mk = .raw (.int .i64 k) ∧ m + k = zs.length ∧ h' = h.push ⟨1, cs⟩ ∧ cs.length = zs.length ∧ ∀ j : Nat, j < k → cs[j]? = (zs.map (fun (z : ByteArray) => X.raw (.string z)))[j]?) zs.length ?_ ?_
  · exact ⟨0, _, by simp -dsimp -implicitDefEqProofs only [go_sem, rq1, rq2, rq3, rq4, rq5, rq6, rq7, Int.natCast_zero], by omega, rfl, by simp [Ai.rep_one], fun j hj => by omega⟩
  · rintro m e h' hks ⟨k, cs, e4, hk, rfl, hcs, hpre⟩
    simp -dsimp -implicitDefEqProofs only [go_sem, rq1, rq2, rq3, rq4, rq5, rq6, rq7, Int.toNat_natCast] at hks
    repeat (first | rw [kz_o] | rw [kz_r0] | simp -dsimp -implicitDefEqProofs only [go_sem, rq1, rq2, rq3, rq4, rq5, rq6, rq7, hks, e4])
    refine gz_dec (fun h2 => ?_) (fun h2 => ?_)
    · have h3 : k < zs.length := by omega
      have hw2 : wrtL cs k [.raw (.string (zs.getD k default))] = some (cs.set k (.raw (.string (zs.getD k default)))) := wrt_set (by omega)
      have hi2 : (0 : Int) ≤ (k : Int) ∧ (k : Int) < (zs.length : Int) := by omega
      repeat (first | rw [kz_o] | rw [kz_r0] | simp -dsimp -implicitDefEqProofs only [go_sem, rq1, rq2, rq3, rq4, rq5, rq6, rq7, hks, e4, nat_nn, Int.toNat_natCast, h3, hoo, hw2, hi2, wrap_succ h3 (by omega)])
      refine nx_keep (m - 1) (by omega) (by simp -dsimp -implicitDefEqProofs only [go_sem, rq1, rq2, rq3, rq4, rq5, rq6, rq7, hks]) ⟨k + 1, _, by simp -dsimp -implicitDefEqProofs only [go_sem, rq1, rq2, rq3, rq4, rq5, rq6, rq7], by omega, rfl, by simpa using hcs, ?_⟩
      intro j hj
      by_cases hji : j = k
      · subst hji
        rw [List.getElem?_set_self (by omega), List.getElem?_map, List.getD_eq_getElem?_getD, List.getElem?_eq_getElem h3]; rfl
      · rw [List.getElem?_set_ne (fun e => hji e.symm)]
        exact hpre j (by omega)
    · repeat (first | rw [kz_o] | rw [kz_r0] | simp -dsimp -implicitDefEqProofs only [go_sem, rq1, rq2, rq3, rq4, rq5, rq6, rq7, hks, e4])
      refine ⟨H2.le_push1 h _, ?_⟩
      have : cs = zs.map (fun (z : ByteArray) => X.raw (.string z)) := by
        apply List.ext_getElem?
        intro j
        by_cases hj : j < k
        · exact hpre j hj
        · rw [List.getElem?_eq_none (by omega), List.getElem?_eq_none (by simp; omega)]
      rw [this]
      exact Own.new (Nat.le_refl _) (by simp)
theorem eqStringS_ok {f f' : Adr} {zs : List ByteArray} {h : H2} (hn0 : zs.length ≤ 9223372036854775807) :
    WC2 Tryz.prog W0 114 [.sl f 1 (strs zs), .sl f' 1 (strs zs)] h (fun v h' => v = .raw (.bool true) ∧ h' = h) := by
  refine start (P := Tryz.prog) [[0, 1], [0, 1], [], [0, 1], [0, 1, 5], [0, 1, 5], [0, 1, 5], [], []] (by kernel_rfl) Tryz.func114 rfl (by decide) (by decide +kernel) (rs := [.tmp 4]) rfl rfl (Nat.le_of_ble_eq_true rfl) ?_
  intro wf
  repeat (first | rw [kz_o] | rw [kz_r0] | simp -dsimp -implicitDefEqProofs only [go_sem, rq1, rq2, rq3, rq4, rq5, rq6, rq7])
  refine lz_keep [0, 1] (fun m e h' => h' = h ∧ ∃ k : Nat, look e 5 .mk = .raw (.int .i64 k) ∧ m + k = zs.length) zs.length ?_ ?_
  · exact ⟨rfl, 0, by simp -dsimp -implicitDefEqProofs only [go_sem, rq1, rq2, rq3, rq4, rq5, rq6, rq7, Int.natCast_zero], by omega⟩
  · rintro m e h hks ⟨rfl, k, e5, hk⟩
    simp -dsimp -implicitDefEqProofs only [go_sem, rq1, rq2, rq3, rq4, rq5, rq6, rq7] at hks
    repeat (first | rw [kz_o] | rw [kz_r0] | simp -dsimp -implicitDefEqProofs only [go_sem, rq1, rq2, rq3, rq4, rq5, rq6, rq7, hks, e5])
    refine gz_dec (fun h2 => ?_) (fun h2 => ?_)
    · have h3 : k < zs.length := by omega
      repeat (first | rw [kz_o] | rw [kz_r0] | simp -dsimp -implicitDefEqProofs only [go_sem, rq1, rq2, rq3, rq4, rq5, rq6, rq7, hks, e5])
      refine dq_intro [(0, []), (1, []), (2, []), (3, []), (4, []), (5, []), (6, []), (7, []), (8, [])] (by kernel_rfl) ?_
      repeat (first | rw [kz_o] | rw [kz_r0] | simp -dsimp -implicitDefEqProofs only [go_sem, rq1, rq2, rq3, rq4, rq5, rq6, rq7, hks, e5, nat_nn, Int.toNat_natCast, h3, hoo, hbo, not_true_eq_false, wrap_succ h3 hn0])
      exact nx_keep (m - 1) (by omega) (by simp -dsimp -implicitDefEqProofs only [go_sem, rq1, rq2, rq3, rq4, rq5, rq6, rq7, hks]) ⟨rfl, k + 1, by simp -dsimp -implicitDefEqProofs only [go_sem, rq1, rq2, rq3, rq4, rq5, rq6, rq7], by omega⟩
    · repeat (first | rw [kz_o] | rw [kz_r0] | simp -dsimp -implicitDefEqProofs only [go_sem, rq1, rq2, rq3, rq4, rq5, rq6, rq7, hks, e5])
      exact ⟨rfl, rfl⟩
def marksI (k : Int) (n : Nat) : List Int := (List.range n).map fun (j : Nat) => k + (j : Int)
theorem marks_len {k : Int} {n : Nat} : (marksI k n).length = n := by simp [marksI]
theorem marks_get {k : Int} {n j : Nat} (hj : j < n) : (marksI k n).getD j default = k + j := by
  rw [List.getD_eq_getElem?_getD, marksI, List.getElem?_map, List.getElem?_range hj]; rfl
theorem heldIntS_ok {f : Adr} {n : Nat} {k0 : Int} {h : H2} (hn0 : n ≤ 9223372036854775807) (hk0 : 0 ≤ k0 ∧ k0 + n ≤ 9223372036854775807) :
    WC2 Tryz.prog W0 177 [.sl f 1 (ints (marksI k0 n)), .raw (.int .i64 k0)] h (fun v h' => v = .raw (.int .i64 (k0 + n)) ∧ h' = h) := by
  refine start (P := Tryz.prog) [[0, 1], [0, 1], [0, 1, 5], [0, 1, 5], [0, 1, 5], [], [0, 1, 5], [1]] (by kernel_rfl) Tryz.func177 rfl (by decide) (by decide +kernel) (rs := [.tmp 4]) rfl rfl (Nat.le_of_ble_eq_true rfl) ?_
  intro wf
  repeat (first | rw [kz_o] | rw [kz_r0] | simp -dsimp -implicitDefEqProofs only [go_sem, rq1, rq2, rq3, rq4, rq5, rq6, rq7])
  refine lz_keep [0] (fun m e h' => h' = h ∧ ∃ k : Nat, look e 5 .mk = .raw (.int .i64 k) ∧ look e 1 .mk = .raw (.int .i64 (k0 + k)) ∧ m + k = n) n ?_ ?_
  · exact ⟨rfl, 0, by simp -dsimp -implicitDefEqProofs only [go_sem, rq1, rq2, rq3, rq4, rq5, rq6, rq7, Int.natCast_zero], by simp -dsimp -implicitDefEqProofs only [go_sem, rq1, rq2, rq3, rq4, rq5, rq6, rq7, Int.natCast_zero, Int.add_zero], by omega⟩
  · rintro m e h hks ⟨rfl, k, e5, e1, hk⟩
    simp -dsimp -implicitDefEqProofs only [go_sem, rq1, rq2, rq3, rq4, rq5, rq6, rq7] at hks
    repeat (first | rw [kz_o] | rw [kz_r0] | simp -dsimp -implicitDefEqProofs only [go_sem, rq1, rq2, rq3, rq4, rq5, rq6, rq7, hks, e5, e1, marks_len])
    refine gz_dec (fun h2 => ?_) (fun h2 => ?_)
    · have h3 : k < n := by omega
      have hw : IntKind.i64.wrap (k0 + k + 1) = k0 + ((k + 1 : Nat) : Int) := by rw [wrap_i64] <;> omega
      repeat (first | rw [kz_o] | rw [kz_r0] | simp -dsimp -implicitDefEqProofs only [go_sem, rq1, rq2, rq3, rq4, rq5, rq6, rq7, hks, e5, e1, marks_len, nat_nn, Int.toNat_natCast, h3, marks_get h3, eq_self, not_true_eq_false, wrap_succ h3 hn0, hw])
      exact nx_keep (m - 1) (by omega) (by simp -dsimp -implicitDefEqProofs only [go_sem, rq1, rq2, rq3, rq4, rq5, rq6, rq7, hks]) ⟨rfl, k + 1, by simp -dsimp -implicitDefEqProofs only [go_sem, rq1, rq2, rq3, rq4, rq5, rq6, rq7], by simp -dsimp -implicitDefEqProofs only [go_sem, rq1, rq2, rq3, rq4, rq5, rq6, rq7], by omega⟩
    · repeat (first | rw [kz_o] | rw [kz_r0] | simp -dsimp -implicitDefEqProofs only [go_sem, rq1, rq2, rq3, rq4, rq5, rq6, rq7, hks, e5, e1])
      have : k = n := by omega
      subst this
      exact ⟨rfl, rfl⟩
theorem markIntS_ok {N : Nat} {v : X} {zs : List Int} {h : H2} {k0 : Int} (o : OwnI N h v zs) (hn0 : zs.length ≤ 9223372036854775807) (hk0 : 0 ≤ k0 ∧ k0 + zs.length ≤ 9223372036854775807) :
    WC2 Tryz.prog W0 43 [v, .raw (.int .i64 k0)] h (fun r h' => r = .raw (.int .i64 (k0 + zs.length)) ∧ OwnI N h' v (marksI k0 zs.length) ∧ hn h' .mk = hn h .mk ∧ ∀ b, blockOf v ≠ some b → h'.get b = h.get b) := by
  obtain ⟨hlen, hcase⟩ := o
  rcases hcase with ⟨rfl, h0⟩ | ⟨b, rfl, hNb, hbn, hb⟩
  · have : zs = [] := List.eq_nil_of_length_eq_zero h0
    subst this
    refine start (P := Tryz.prog) [[0, 1], [0, 1], [0, 1, 5], [0, 1, 5], [0, 1, 5], [0, 1, 5], [1]] (by kernel_rfl) Tryz.func43 rfl (by decide) (by decide +kernel) (rs := [.tmp 4]) rfl rfl (Nat.le_of_ble_eq_true rfl) ?_
    intro wf
    repeat (first | rw [kz_o] | rw [kz_r0] | simp -dsimp -implicitDefEqProofs only [go_sem, rq1, rq2, rq3, rq4, rq5, rq6, rq7])
    refine lz_keep [0] (fun m e h' => h' = h ∧ look e 5 .mk = .raw (.int .i64 0) ∧ look e 1 .mk = .raw (.int .i64 k0)) 0 ?_ ?_
    · exact ⟨rfl, by simp -dsimp -implicitDefEqProofs only [go_sem, rq1, rq2, rq3, rq4, rq5, rq6, rq7], by simp -dsimp -implicitDefEqProofs only [go_sem, rq1, rq2, rq3, rq4, rq5, rq6, rq7]⟩
    · rintro m e h hks ⟨rfl, e5, e1⟩
      simp -dsimp -implicitDefEqProofs only [go_sem, rq1, rq2, rq3, rq4, rq5, rq6, rq7] at hks
      repeat (first | rw [kz_o] | rw [kz_r0] | simp -dsimp -implicitDefEqProofs only [go_sem, rq1, rq2, rq3, rq4, rq5, rq6, rq7, hks, e5, e1, Int.natCast_zero, Int.lt_irrefl])
      exact ⟨by simp, ⟨by simp, .inl ⟨rfl, rfl⟩⟩, rfl, fun _ _ => rfl⟩
  · refine start (P := Tryz.prog) [[0, 1], [0, 1], [0, 1, 5], [0, 1, 5], [0, 1, 5], [0, 1, 5], [1]] (by kernel_rfl) Tryz.func43 rfl (by decide) (by decide +kernel) (rs := [.tmp 4]) rfl rfl (Nat.le_of_ble_eq_true rfl) ?_
    intro wf
    repeat (first | rw [kz_o] | rw [kz_r0] | simp -dsimp -implicitDefEqProofs only [go_sem, rq1, rq2, rq3, rq4, rq5, rq6, rq7])
    refine lz_keep [0] (fun m e h' => ∃ (k : Nat) (cs : List X), look e 5 .mk = .raw (.int .i64 k) ∧ look e 1 .mk = .raw (.int .i64 (k0 + k)) ∧ m + k = zs.length ∧ hn h' .mk = hn h .mk ∧ hg h' b .mk = some ⟨1, cs⟩ ∧ (∀ c, c ≠ b → h'.get c = h.get c) ∧ cs.length = zs.length ∧ ∀ j : Nat, j < k → cs[j]? = some (cI (k0 + j))) zs.length ?_ ?_
    · exact ⟨0, _, by simp -dsimp -implicitDefEqProofs only [go_sem, rq1, rq2, rq3, rq4, rq5, rq6, rq7, Int.natCast_zero], by simp -dsimp -implicitDefEqProofs only [go_sem, rq1, rq2, rq3, rq4, rq5, rq6, rq7, Int.natCast_zero, Int.add_zero], by omega, rfl, hb, fun _ _ => rfl, by simp, fun j hj => by omega⟩
    · rintro m e h' hks ⟨k, cs, e5, e1, hk, hnn, hrow, hoth, hl, hpre⟩
      simp -dsimp -implicitDefEqProofs only [go_sem, rq1, rq2, rq3, rq4, rq5, rq6, rq7] at hks
      repeat (first | rw [kz_o] | rw [kz_r0] | simp -dsimp -implicitDefEqProofs only [go_sem, rq1, rq2, rq3, rq4, rq5, rq6, rq7, hks, e5, e1])
      refine gz_dec (fun h2 => ?_) (fun h2 => ?_)
      · have h3 : k < zs.length := by omega
        have hw2 : wrtL cs k [.raw (.int .i64 (k0 + k))] = some (cs.set k (.raw (.int .i64 (k0 + k)))) := wrt_set (by omega)
        have hi2 : (0 : Int) ≤ (k : Int) ∧ (k : Int) < (zs.length : Int) := by omega
        have hw : IntKind.i64.wrap (k0 + k + 1) = k0 + ((k + 1 : Nat) : Int) := by rw [wrap_i64] <;> omega
        repeat (first | rw [kz_o] | rw [kz_r0] | simp -dsimp -implicitDefEqProofs only [go_sem, rq1, rq2, rq3, rq4, rq5, rq6, rq7, hks, e5, e1, hrow, nat_nn, Int.toNat_natCast, h3, hoo, hw2, hi2, wrap_succ h3 hn0, hw])
        refine nx_keep (m - 1) (by omega) (by simp -dsimp -implicitDefEqProofs only [go_sem, rq1, rq2, rq3, rq4, rq5, rq6, rq7, hks]) ⟨k + 1, cs.set k (.raw (.int .i64 (k0 + k))), by simp -dsimp -implicitDefEqProofs only [go_sem, rq1, rq2, rq3, rq4, rq5, rq6, rq7], by simp -dsimp -implicitDefEqProofs only [go_sem, rq1, rq2, rq3, rq4, rq5, rq6, rq7], by omega, hnn, by simp -dsimp -implicitDefEqProofs only [go_sem, rq1, rq2, rq3, rq4, rq5, rq6, rq7, hoo], fun c hc => ?_, by simpa using hl, ?_⟩
        · show (if c = b then _ else h'.get c) = _
          rw [if_neg hc]; exact hoth c hc
        · intro j hj
          by_cases hji : j = k
          · subst hji; rw [List.getElem?_set_self (by omega)]; rfl
          · rw [List.getElem?_set_ne (fun e => hji e.symm)]; exact hpre j (by omega)
      · repeat (first | rw [kz_o] | rw [kz_r0] | simp -dsimp -implicitDefEqProofs only [go_sem, rq1, rq2, rq3, rq4, rq5, rq6, rq7, hks, e5, e1])
        have : k = zs.length := by omega
        subst this
        refine ⟨rfl, ⟨by simp [marks_len], .inr ⟨b, by rw [marks_len], hNb, by omega, ?_⟩⟩, hnn, fun c hc => hoth c fun e => hc (by rw [e]; rfl)⟩
        rw [hrow]
        congr 2
        apply List.ext_getElem?
        intro j
        by_cases hj : j < zs.length
        · rw [hpre j hj, marksI, List.map_map, List.getElem?_map, List.getElem?_range hj]; rfl
        · rw [List.getElem?_eq_none (by omega), List.getElem?_eq_none (by simp [marksI]; omega)]
def sumL (ss : List ByteArray) : Nat := (ss.map ByteArray.size).sum
def mtN : Nat → ByteArray → ByteArray
  | 0, s => s
  | n + 1, s => mtN ((n + 1) / 10) (⟨#[UInt8.ofNat (48 + (n + 1) % 10)]⟩ ++ s)
decreasing_by omega
def markT (k : Int) : ByteArray := if k ≤ 0 then ⟨#[109, 48]⟩ else ⟨#[109]⟩ ++ mtN k.toNat ⟨#[]⟩
theorem markText_ok {k : Int} {h : H2} (hk : k ≤ 4611686018427387904) : WC2 Tryz.prog W0 194 [.raw (.int .i64 k)] h (fun v h' => v = .raw (.string (markT k)) ∧ h' = h.up (hn h' .mk) ∧ hn h .mk ≤ hn h' .mk) := by
  refine start (P := Tryz.prog) [[0], [0], [], [0], [0, 3], [0, 3], [0, 3], [3]] (by kernel_rfl) Tryz.func194 rfl (by decide) (by decide +kernel) (rs := [.tmp 2]) rfl rfl (Nat.le_of_ble_eq_true rfl) ?_
  intro wf
  repeat (first | rw [kz_o] | rw [kz_r0] | simp -dsimp -implicitDefEqProofs only [go_sem, rq1, rq2, rq3, rq4, rq5, rq6, rq7])
  refine gz_dec (fun h1 => ?_) (fun h1 => ?_)
  · repeat (first | rw [kz_o] | rw [kz_r0] | simp -dsimp -implicitDefEqProofs only [go_sem, rq1, rq2, rq3, rq4, rq5, rq6, rq7])
    exact ⟨by rw [markT, if_pos h1], rfl, Nat.le_refl _⟩
  · repeat (first | rw [kz_o] | rw [kz_r0] | simp -dsimp -implicitDefEqProofs only [go_sem, rq1, rq2, rq3, rq4, rq5, rq6, rq7])
    refine lz_keep [] (fun m e h' => h' = h.up (hn h' .mk) ∧ hn h .mk ≤ hn h' .mk ∧ ∃ s : ByteArray, look e 0 .mk = .raw (.int .i64 m) ∧ look e 3 .mk = .raw (.string s) ∧ mtN m s = mtN k.toNat ⟨#[]⟩ ∧ (s.size : Int) + m ≤ k) k.toNat ?_ ?_
    · refine ⟨rfl, Nat.le_refl _, ⟨#[]⟩, ?_, by simp -dsimp -implicitDefEqProofs only [go_sem, rq1, rq2, rq3, rq4, rq5, rq6, rq7], rfl, ?_⟩
      · rw [show ((k.toNat : Nat) : Int) = k by omega]; simp -dsimp -implicitDefEqProofs only [go_sem, rq1, rq2, rq3, rq4, rq5, rq6, rq7]
      · show (0 : Int) + _ ≤ _; omega
    · rintro m e h' hks ⟨hh, hn', s, e0, e3, hs, hsz⟩
      simp -dsimp -implicitDefEqProofs only [go_sem, rq1, rq2, rq3, rq4, rq5, rq6, rq7] at hks
      repeat (first | rw [kz_o] | rw [kz_r0] | simp -dsimp -implicitDefEqProofs only [go_sem, rq1, rq2, rq3, rq4, rq5, rq6, rq7, hks, e0, e3])
      refine gz_dec (fun h2 => ?_) (fun h2 => ?_)
      · obtain ⟨m, rfl⟩ : ∃ q, m = q + 1 := ⟨m - 1, by omega⟩
        have t10 : ((10 : Int) == 0) = false := rfl
        have hw1 : IntKind.i64.wrap (48 + ((m + 1 : Nat) : Int).tmod 10) = ((48 + (m + 1) % 10 : Nat) : Int) := by
          rw [Int.tmod_eq_emod_of_nonneg (by omega), wrap_i64] <;> omega
        have hw2 : IntKind.i64.wrap (((m + 1 : Nat) : Int).tdiv 10) = (((m + 1) / 10 : Nat) : Int) := by
          rw [Int.tdiv_eq_ediv_of_nonneg (by omega), wrap_i64] <;> omega
        have hw3 : IntKind.u8.wrap ((48 + (m + 1) % 10 : Nat) : Int) = ((48 + (m + 1) % 10 : Nat) : Int) := by
          rw [wrap_u8]; omega
        have hsz2 : (((ByteArray.mk #[UInt8.ofNat (48 + (m + 1) % 10)]).size + s.size : Nat) : Int) ≤ 9223372036854775807 := by
          have : (ByteArray.mk #[UInt8.ofNat (48 + (m + 1) % 10)]).size = 1 := rfl
          omega
        repeat (first | rw [kz_o] | rw [kz_r0] | simp -dsimp -implicitDefEqProofs only [go_sem, rq1, rq2, rq3, rq4, rq5, rq6, rq7, hks, e0, e3, t10, hw1, hw2, hw3, hsz2])
        refine nx_keep ((m + 1) / 10) (by omega) (by simp -dsimp -implicitDefEqProofs only [go_sem, rq1, rq2, rq3, rq4, rq5, rq6, rq7, hks]) ⟨?_, ?_, ⟨#[UInt8.ofNat (48 + (m + 1) % 10)]⟩ ++ s, by simp -dsimp -implicitDefEqProofs only [go_sem, rq1, rq2, rq3, rq4, rq5, rq6, rq7], by simp -dsimp -implicitDefEqProofs only [go_sem, rq1, rq2, rq3, rq4, rq5, rq6, rq7], by rw [← hs, mtN], ?_⟩
        · rw [hh]; rfl
        · simp -dsimp -implicitDefEqProofs only [go_sem, rq1, rq2, rq3, rq4, rq5, rq6, rq7]; omega
        · rw [ByteArray.size_append]
          have : (ByteArray.mk #[UInt8.ofNat (48 + (m + 1) % 10)]).size = 1 := rfl
          omega
      · have hm : m = 0 := by omega
        subst hm
        have hsz3 : (((ByteArray.mk #[109]).size + s.size : Nat) : Int) ≤ 9223372036854775807 := by
          have : (ByteArray.mk #[109]).size = 1 := rfl
          omega
        repeat (first | rw [kz_o] | rw [kz_r0] | simp -dsimp -implicitDefEqProofs only [go_sem, rq1, rq2, rq3, rq4, rq5, rq6, rq7, hks, e0, e3, hsz3])
        refine ⟨?_, hh, hn'⟩
        rw [markT, if_neg (by omega), ← hs]; simp only [mtN]
def marksS (k : Int) (n : Nat) : List ByteArray := (marksI k n).map markT
theorem marksS_len {k : Int} {n : Nat} : (marksS k n).length = n := by simp [marksS, marksI]
theorem marksS_get {k : Int} {n j : Nat} (hj : j < n) : (marksS k n).getD j default = markT (k + j) := by
  rw [List.getD_eq_getElem?_getD, marksS, marksI, List.map_map, List.getElem?_map, List.getElem?_range hj]; rfl
theorem heldStringS_ok {f : Adr} {n : Nat} {k0 : Int} {h : H2} (hk0 : 0 ≤ k0 ∧ k0 + n ≤ 4611686018427387904) :
    WC2 Tryz.prog W0 181 [.sl f 1 (strs (marksS k0 n)), .raw (.int .i64 k0)] h (fun v h' => v = .raw (.int .i64 (k0 + n)) ∧ h' = h.up (hn h' .mk) ∧ hn h .mk ≤ hn h' .mk) := by
  refine start (P := Tryz.prog) [[0, 1], [0, 1], [0, 1, 5], [0, 1, 5], [0, 1, 5], [], [0, 1, 5], [1]] (by kernel_rfl) Tryz.func181 rfl (by decide) (by decide +kernel) (rs := [.tmp 4]) rfl rfl (Nat.le_of_ble_eq_true rfl) ?_
  intro wf
  repeat (first | rw [kz_o] | rw [kz_r0] | simp -dsimp -implicitDefEqProofs only [go_sem, rq1, rq2, rq3, rq4, rq5, rq6, rq7])
  refine lz_keep [0] (fun m e h' => h' = h.up (hn h' .mk) ∧ hn h .mk ≤ hn h' .mk ∧ ∃ k : Nat, look e 5 .mk = .raw (.int .i64 k) ∧ look e 1 .mk = .raw (.int .i64 (k0 + k)) ∧ m + k = n) n ?_ ?_
  · exact ⟨rfl, Nat.le_refl _, 0, by simp -dsimp -implicitDefEqProofs only [go_sem, rq1, rq2, rq3, rq4, rq5, rq6, rq7], by simp -dsimp -implicitDefEqProofs only [go_sem, rq1, rq2, rq3, rq4, rq5, rq6, rq7, Int.add_zero], by omega⟩
  · rintro m e h2 hks ⟨hh, hN, k, e5, e1, hk⟩
    simp -dsimp -implicitDefEqProofs only [go_sem, rq1, rq2, rq3, rq4, rq5, rq6, rq7] at hks
    repeat (first | rw [kz_o] | rw [kz_r0] | simp -dsimp -implicitDefEqProofs only [go_sem, rq1, rq2, rq3, rq4, rq5, rq6, rq7, hks, e5, e1, marksS_len])
    refine gz_dec (fun h2 => ?_) (fun h2 => ?_)
    · have h3 : k < n := by omega
      have hw : IntKind.i64.wrap (k0 + k + 1) = k0 + ((k + 1 : Nat) : Int) := by rw [wrap_i64] <;> omega
      repeat (first | rw [kz_o] | rw [kz_r0] | simp -dsimp -implicitDefEqProofs only [go_sem, rq1, rq2, rq3, rq4, rq5, rq6, rq7, hks, e5, e1])
      refine dq_intro [(0, []), (1, []), (2, []), (3, []), (4, []), (5, [3]), (6, [])] (by kernel_rfl) ?_
      repeat (first | rw [kz_o] | rw [kz_r0] | simp -dsimp -implicitDefEqProofs only [go_sem, rq1, rq2, rq3, rq4, rq5, rq6, rq7, hks, e5, e1, marksS_len, h3, marksS_get h3])
      refine wz_intro (markText_ok (by omega)) ?_
      rintro _ h4 ⟨rfl, hh4, hN4⟩
      rw [kz_r]
      refine ⟨by simp -dsimp -implicitDefEqProofs only [go_sem, rq1, rq2, rq3, rq4, rq5, rq6, rq7, hks, e5, e1, marksS_len, h3, marksS_get h3], ?_⟩
      repeat (first | rw [kz_o] | rw [kz_r0] | simp -dsimp -implicitDefEqProofs only [go_sem, rq1, rq2, rq3, rq4, rq5, rq6, rq7, hks, e5, e1, marksS_len, wrap_succ h3 (show n ≤ 9223372036854775807 by omega), hw])
      exact nx_keep (m - 1) (by omega) (by simp -dsimp -implicitDefEqProofs only [go_sem, rq1, rq2, rq3, rq4, rq5, rq6, rq7, hks]) ⟨by rw [hh4, hh]; rfl, by omega, k + 1, by simp -dsimp -implicitDefEqProofs only [go_sem, rq1, rq2, rq3, rq4, rq5, rq6, rq7], by simp -dsimp -implicitDefEqProofs only [go_sem, rq1, rq2, rq3, rq4, rq5, rq6, rq7], by omega⟩
    · repeat (first | rw [kz_o] | rw [kz_r0] | simp -dsimp -implicitDefEqProofs only [go_sem, rq1, rq2, rq3, rq4, rq5, rq6, rq7, hks, e5, e1])
      have : k = n := by omega
      subst this
      exact ⟨rfl, hh, hN⟩
abbrev cS (s : ByteArray) : X := .raw (.string s)
def OwnS (N : Nat) (g : H2) (v : X) (zs : List ByteArray) : Prop := Own N g v 1 zs.length (zs.map cS)
theorem markStringS_ok {N : Nat} {v : X} {zs : List ByteArray} {h : H2} {k0 : Int} (o : OwnS N h v zs) (hk0 : 0 ≤ k0 ∧ k0 + zs.length ≤ 4611686018427387904) :
    WC2 Tryz.prog W0 115 [v, .raw (.int .i64 k0)] h (fun r h' => r = .raw (.int .i64 (k0 + zs.length)) ∧ OwnS N h' v (marksS k0 zs.length) ∧ hn h .mk ≤ hn h' .mk ∧ ∀ b, blockOf v ≠ some b → h'.get b = h.get b) := by
  obtain ⟨hlen, hcase⟩ := o
  rcases hcase with ⟨rfl, h0⟩ | ⟨b, rfl, hNb, hbn, hb⟩
  · have : zs = [] := List.eq_nil_of_length_eq_zero h0
    subst this
    refine start (P := Tryz.prog) [[0, 1], [0, 1], [0, 1, 5], [0, 1, 5], [0, 1, 5], [0, 1, 5], [1]] (by kernel_rfl) Tryz.func115 rfl (by decide) (by decide +kernel) (rs := [.tmp 4]) rfl rfl (Nat.le_of_ble_eq_true rfl) ?_
    intro wf
    repeat (first | rw [kz_o] | rw [kz_r0] | simp -dsimp -implicitDefEqProofs only [go_sem, rq1, rq2, rq3, rq4, rq5, rq6, rq7])
    refine lz_keep [0] (fun m e h' => h' = h ∧ look e 5 .mk = .raw (.int .i64 0) ∧ look e 1 .mk = .raw (.int .i64 k0)) 0 ?_ ?_
    · exact ⟨rfl, by simp -dsimp -implicitDefEqProofs only [go_sem, rq1, rq2, rq3, rq4, rq5, rq6, rq7], by simp -dsimp -implicitDefEqProofs only [go_sem, rq1, rq2, rq3, rq4, rq5, rq6, rq7]⟩
    · rintro m e h hks ⟨rfl, e5, e1⟩
      simp -dsimp -implicitDefEqProofs only [go_sem, rq1, rq2, rq3, rq4, rq5, rq6, rq7] at hks
      repeat (first | rw [kz_o] | rw [kz_r0] | simp -dsimp -implicitDefEqProofs only [go_sem, rq1, rq2, rq3, rq4, rq5, rq6, rq7, hks, e5, e1, Int.lt_irrefl])
      exact ⟨by simp, ⟨by simp [marksS, marksI], .inl ⟨rfl, rfl⟩⟩, Nat.le_refl _, fun _ _ => rfl⟩
  · refine start (P := Tryz.prog) [[0, 1], [0, 1], [0, 1, 5], [0, 1, 5], [0, 1, 5], [0, 1, 5], [1]] (by kernel_rfl) Tryz.func115 rfl (by decide) (by decide +kernel) (rs := [.tmp 4]) rfl rfl (Nat.le_of_ble_eq_true rfl) ?_
    intro wf
    repeat (first | rw [kz_o] | rw [kz_r0] | simp -dsimp -implicitDefEqProofs only [go_sem, rq1, rq2, rq3, rq4, rq5, rq6, rq7])
    refine lz_keep [0] (fun m e h' => ∃ (k : Nat) (cs : List X), look e 5 .mk = .raw (.int .i64 k) ∧ look e 1 .mk = .raw (.int .i64 (k0 + k)) ∧ m + k = zs.length ∧ hn h .mk ≤ hn h' .mk ∧ hg h' b .mk = some ⟨1, cs⟩ ∧ (∀ c, c ≠ b → h'.get c = h.get c) ∧ cs.length = zs.length ∧ ∀ j : Nat, j < k → cs[j]? = some (cS (markT (k0 + j)))) zs.length ?_ ?_
    · exact ⟨0, _, by simp -dsimp -implicitDefEqProofs only [go_sem, rq1, rq2, rq3, rq4, rq5, rq6, rq7], by simp -dsimp -implicitDefEqProofs only [go_sem, rq1, rq2, rq3, rq4, rq5, rq6, rq7, Int.add_zero], by omega, Nat.le_refl _, hb, fun _ _ => rfl, by simp, fun j hj => by omega⟩
    · rintro m e h' hks ⟨k, cs, e5, e1, hk, hnn, hrow, hoth, hl, hpre⟩
      simp -dsimp -implicitDefEqProofs only [go_sem, rq1, rq2, rq3, rq4, rq5, rq6, rq7] at hks
      repeat (first | rw [kz_o] | rw [kz_r0] | simp -dsimp -implicitDefEqProofs only [go_sem, rq1, rq2, rq3, rq4, rq5, rq6, rq7, hks, e5, e1])
      refine gz_dec (fun h2 => ?_) (fun h2 => ?_)
      · have h3 : k < zs.length := by omega
        have hw2 : wrtL cs k [.raw (.string (markT (k0 + k)))] = some (cs.set k (.raw (.string (markT (k0 + k))))) := wrt_set (by omega)
        have hi2 : (0 : Int) ≤ (k : Int) ∧ (k : Int) < (zs.length : Int) := by omega
        have hw : IntKind.i64.wrap (k0 + k + 1) = k0 + ((k + 1 : Nat) : Int) := by rw [wrap_i64] <;> omega
        repeat (first | rw [kz_o] | rw [kz_r0] | simp -dsimp -implicitDefEqProofs only [go_sem, rq1, rq2, rq3, rq4, rq5, rq6, rq7, hks, e5, e1])
        refine wz_intro (markText_ok (by omega)) ?_
        rintro _ h4 ⟨rfl, hh4, hN4⟩
        rw [hh4]
        repeat (first | rw [kz_o] | rw [kz_r0] | simp -dsimp -implicitDefEqProofs only [go_sem, rq1, rq2, rq3, rq4, rq5, rq6, rq7, hks, e5, e1, hrow, h3, hw2, hi2, wrap_succ h3 (show zs.length ≤ 9223372036854775807 by omega), hw])
        refine nx_keep (m - 1) (by omega) (by simp -dsimp -implicitDefEqProofs only [go_sem, rq1, rq2, rq3, rq4, rq5, rq6, rq7, hks]) ⟨k + 1, cs.set k (.raw (.string (markT (k0 + k)))), by simp -dsimp -implicitDefEqProofs only [go_sem, rq1, rq2, rq3, rq4, rq5, rq6, rq7], by simp -dsimp -implicitDefEqProofs only [go_sem, rq1, rq2, rq3, rq4, rq5, rq6, rq7], by omega, by simp -dsimp -implicitDefEqProofs only [go_sem, rq1, rq2, rq3, rq4, rq5, rq6, rq7]; omega, by simp -dsimp -implicitDefEqProofs only [go_sem, rq1, rq2, rq3, rq4, rq5, rq6, rq7], fun c hc => ?_, by simpa using hl, ?_⟩
        · show (if c = b then _ else h'.get c) = _
          rw [if_neg hc]; exact hoth c hc
        · intro j hj
          by_cases hji : j = k
          · subst hji; rw [List.getElem?_set_self (by omega)]
          · rw [List.getElem?_set_ne (fun e => hji e.symm)]; exact hpre j (by omega)
      · repeat (first | rw [kz_o] | rw [kz_r0] | simp -dsimp -implicitDefEqProofs only [go_sem, rq1, rq2, rq3, rq4, rq5, rq6, rq7, hks, e5, e1])
        have : k = zs.length := by omega
        subst this
        refine ⟨rfl, ⟨by simp [marksS_len], .inr ⟨b, by rw [marksS_len], hNb, by omega, ?_⟩⟩, hnn, fun c hc => hoth c fun e => hc (by rw [e]; rfl)⟩
        rw [hrow]
        congr 2
        apply List.ext_getElem?
        intro j
        by_cases hj : j < zs.length
        · rw [hpre j hj, marksS, marksI, List.map_map, List.map_map, List.getElem?_map, List.getElem?_range hj]; rfl
        · rw [List.getElem?_eq_none (by omega), List.getElem?_eq_none (by simp [marksS, marksI]; omega)]
end Go.Bi
end
section
set_option linter.unusedSimpArgs false
set_option linter.unusedVariables false
namespace Go.Bi
open Go.Proofs
open Go.Ai (plainS)
variable {W0 : World}
theorem up_up {h : H2} {n m : Nat} : (h.up n).up m = h.up m := rfl
attribute [go_sem] up_up
theorem OTs.head {g : H2} {bs : List Nat} {ys : List X} {t : T} {ts : List T} (o : OTs g bs ys (t :: ts)) : ∃ b1 b2 y ys', bs = b1 ++ b2 ∧ ys = y :: ys' ∧ OT g b1 y t ∧ OTs g b2 ys' ts := by
  cases o with | cons a b => exact ⟨_, _, _, _, rfl, rfl, a, b⟩
theorem OTs.headv {g : H2} {bs : List Nat} {ys : List X} {v : Value} {ts : List T} (o : OTs g bs ys (.v v :: ts)) : ∃ ys', ys = .raw v :: ys' ∧ OTs g bs ys' ts := by
  cases o with | cons a b => cases a; exact ⟨_, rfl, b⟩
theorem OTs.tail0 {g : H2} {bs : List Nat} {ys : List X} (o : OTs g bs ys []) : bs = [] ∧ ys = [] := by cases o; exact ⟨rfl, rfl⟩
theorem szIntS_pw {f : Adr} {zs : List Int} {left : Int} {h : H2} (hn0 : zs.length ≤ 9223372036854775807) (hl : 0 ≤ left ∧ left ≤ 1048576) : PW Tryz.prog W0 74 [.sl f 1 (ints zs), .raw (.int .i64 left)] h (fun y => ∃ k : Int, y = .raw (.int .i64 k) ∧ (0 ≤ k → (zs.length : Int) + k ≤ left)) :=
  PW.scalar ((szIntS_ok hn0 hl).mono fun y g' ⟨⟨k, h1, h2⟩, h3⟩ => ⟨by rw [h3]; exact H2.le.refl _, ⟨_, h1⟩, k, h1, h2⟩)
theorem eqIntS_pw {f f' : Adr} {zs : List Int} {h : H2} (hn0 : zs.length ≤ 9223372036854775807) : PW Tryz.prog W0 41 [.sl f 1 (ints zs), .sl f' 1 (ints zs)] h (fun y => y = .raw (.bool true)) :=
  PW.scalar ((eqIntS_ok hn0).mono fun y g' ⟨h1, h3⟩ => ⟨by rw [h3]; exact H2.le.refl _, ⟨_, h1⟩, h1⟩)
theorem eqStringS_pw {f f' : Adr} {zs : List ByteArray} {h : H2} (hn0 : zs.length ≤ 9223372036854775807) : PW Tryz.prog W0 114 [.sl f 1 (strs zs), .sl f' 1 (strs zs)] h (fun y => y = .raw (.bool true)) :=
  PW.scalar ((eqStringS_ok hn0).mono fun y g' ⟨h1, h3⟩ => ⟨by rw [h3]; exact H2.le.refl _, ⟨_, h1⟩, h1⟩)
theorem strs_T {zs : List ByteArray} : strs zs = (zs.map Value.string).map fun v => [T.v v] := by simp [strs, eS, Function.comp_def]
theorem OwnS.tree {g : H2} {N : Nat} {x : X} {zs : List ByteArray} (o : OwnS N g x zs) : ∃ bs, OT g bs x (.l 1 (strs zs)) ∧ Bl N (hn g .mk) bs := by
  obtain ⟨hl, hc⟩ := o
  rcases hc with ⟨rfl, h0⟩ | ⟨b, rfl, h1, h2, h3⟩
  · have : zs = [] := List.eq_nil_of_length_eq_zero h0
    subst this
    exact ⟨[], .nil, .nil⟩
  · have e : zs.map cS = (zs.map Value.string).map .raw := by simp [Function.comp_def]
    rw [e] at h3
    have := OT.flat (N := N) h3 (fun v hv => by obtain ⟨z, _, rfl⟩ := List.mem_map.1 hv; rfl)
    rw [← strs_T, List.length_map] at this
    exact ⟨[b], this, (Bl.one h2).wide h1 (Nat.le_refl _)⟩
theorem OT.ownS {g : H2} {bs : List Nat} {x : X} {zs : List ByteArray} (o : OT g bs x (.l 1 (strs zs))) {N : Nat} (hb : Bl N (hn g .mk) bs) : OwnS N g x zs := by
  generalize ht : T.l 1 (strs zs) = t at o
  cases o with
  | raw => cases ht
  | nil =>
    simp only [T.l.injEq] at ht
    have : zs = [] := by cases zs <;> simp_all [strs]
    subst this
    exact .nil
  | row h1 h2 h3 h4 h5 =>
    simp only [T.l.injEq] at ht
    obtain ⟨rfl, rfl⟩ := ht
    rename_i b n bs' cs
    simp at h2
    have hn' : zs.length = n := by rw [← h3]; simp [strs]
    subst hn'
    refine ⟨by simp, .inr ⟨b, rfl, (hb.2 b (by simp)).1, (hb.2 b (by simp)).2, ?_⟩⟩
    have hcs : cs = zs.map cS := by
      clear h1 h2 h3 h4 hb
      induction zs generalizing cs bs' with
      | nil => simp [strs] at h5; cases h5; rfl
      | cons z zs ih =>
        simp only [strs, eS, List.map_cons, List.flatten_cons, List.cons_append, List.nil_append] at h5
        cases h5 with
        | cons a b =>
          cases a
          rw [List.map_cons, ih b]
    rw [← hcs]; exact h1
theorem toIntS_new {f : Adr} {zs : List Int} {h : H2} (hn0 : zs.length ≤ 1048576) : NewT Tryz.prog W0 38 [.sl f 1 (ints zs)] h (.l 1 (ints zs)) :=
  (toIntS_ok hn0).mono fun v h' ⟨h1, h2⟩ => ⟨h1, OwnI.tree h2⟩
theorem OT.cell {g : H2} {bs : List Nat} {x : X} {z : Nat} {es : List (List T)} (o : OT g bs x (.l z es)) : cellsX x = some [x] ∧ okX x = true ∧ isTpX x = false := by
  generalize ht : T.l z es = t at o
  cases o with
  | raw => cases ht
  | nil => exact ⟨rfl, rfl, rfl⟩
  | row => exact ⟨rfl, rfl, rfl⟩
theorem Bl.split {N M : Nat} {a b : List Nat} (l : Bl N M (a ++ b)) : Bl N M a ∧ Bl N M b ∧ ∀ x ∈ a, x ∉ b := by
  obtain ⟨h1, h2⟩ := l
  rw [List.nodup_append] at h1
  exact ⟨⟨h1.1, fun x hx => h2 x (by simp [hx])⟩, ⟨h1.2.1, fun x hx => h2 x (by simp [hx])⟩, fun x hx hy => h1.2.2 x hx x hy rfl⟩
theorem OT.block {g : H2} {bs : List Nat} {x : X} {z : Nat} {es : List (List T)} (o : OT g bs x (.l z es)) {b : Nat} (hb : blockOf x = some b) : b ∈ bs := by
  generalize ht : T.l z es = t at o
  cases o with
  | raw => cases ht
  | nil => cases hb
  | row h1 h2 h3 h4 h5 => simp only [blockOf] at hb; cases hb; simp
theorem flat_cells : ∀ {vs : List Value}, (vs.map fun v => [T.v v]).flatten = vs.map .v
  | [] => rfl
  | v :: vs => by simp [flat_cells]
theorem OTs.raws_bs {g : H2} : ∀ {vs : List Value} {bs : List Nat} {xs : List X}, OTs g bs xs (vs.map .v) → bs = []
  | [], _, _, o => (OTs.tail0 o).1
  | v :: vs, _, _, o => by
    obtain ⟨ys, rfl, o'⟩ := OTs.headv (by simpa using o)
    exact OTs.raws_bs o'
theorem markIntS_tree {N : Nat} {bs : List Nat} {v : X} {zs : List Int} {h : H2} {k0 : Int} (o : OT h bs v (.l 1 (ints zs))) (bl : Bl N (hn h .mk) bs) (hk : 0 ≤ k0 ∧ k0 + zs.length ≤ 4611686018427387904) :
    WC2 Tryz.prog W0 43 [v, .raw (.int .i64 k0)] h (fun r h' => ∃ (k1 : Int) (c' : List Int), r = .raw (.int .i64 k1) ∧ k0 ≤ k1 ∧ k1 ≤ k0 + zs.length ∧ OT h' bs v (.l 1 (ints c')) ∧ (∀ f g, PW Tryz.prog W0 177 [.sl f 1 (ints c'), .raw (.int .i64 k0)] g (fun y => y = .raw (.int .i64 k1))) ∧ hn h .mk ≤ hn h' .mk ∧ ∀ b, b < hn h .mk → b ∉ bs → h'.get b = h.get b) := by
  refine (markIntS_ok (o.own bl) (by omega) (by omega)).mono ?_
  rintro r h' ⟨rfl, ow, hn', fr⟩
  refine ⟨_, marksI k0 zs.length, rfl, by omega, by omega, ?_, fun f g => PW.scalar ((heldIntS_ok (by omega) (by omega)).mono fun y g' ⟨h1, h3⟩ => ⟨by rw [h3]; exact H2.le.refl _, ⟨_, h1⟩, h1⟩), by omega, fun b _ hb => fr b fun e => hb (o.block e)⟩
  obtain ⟨bs', o', bl'⟩ := ow.tree
  have : bs' = bs := by
    generalize ht : T.l 1 (ints (marksI k0 zs.length)) = t at o'
    generalize ht2 : T.l 1 (ints zs) = t2 at o
    cases o' with
    | raw => cases ht
    | nil => cases o with | nil => rfl | raw => cases ht2
    | row p1 p2 p3 p4 p5 =>
      cases o with
      | raw => cases ht2
      | row q1 q2 q3 q4 q5 =>
        simp only [T.l.injEq] at ht ht2
        obtain ⟨rfl, rfl⟩ := ht
        obtain ⟨rfl, rfl⟩ := ht2
        rw [ints_T, flat_cells] at p5 q5
        rw [OTs.raws_bs p5, OTs.raws_bs q5]
  rw [← this]; exact o'
theorem markStringS_tree {N : Nat} {bs : List Nat} {v : X} {zs : List ByteArray} {h : H2} {k0 : Int} (o : OT h bs v (.l 1 (strs zs))) (bl : Bl N (hn h .mk) bs) (hk : 0 ≤ k0 ∧ k0 + zs.length ≤ 4611686018427387904) :
    WC2 Tryz.prog W0 115 [v, .raw (.int .i64 k0)] h (fun r h' => ∃ (k1 : Int) (c' : List ByteArray), r = .raw (.int .i64 k1) ∧ k0 ≤ k1 ∧ k1 ≤ k0 + zs.length ∧ OT h' bs v (.l 1 (strs c')) ∧ (∀ f g, PW Tryz.prog W0 181 [.sl f 1 (strs c'), .raw (.int .i64 k0)] g (fun y => y = .raw (.int .i64 k1))) ∧ hn h .mk ≤ hn h' .mk ∧ ∀ b, b < hn h .mk → b ∉ bs → h'.get b = h.get b) := by
  refine (markStringS_ok (o.ownS bl) (by omega)).mono ?_
  rintro r h' ⟨rfl, ow, hn', fr⟩
  refine ⟨_, marksS k0 zs.length, rfl, by omega, by omega, ?_, fun f g => PW.scalar ((heldStringS_ok (by omega)).mono fun y g' ⟨h1, h3, h4⟩ => ⟨by rw [h3]; exact le_up (H2.le.refl _) h4, ⟨_, h1⟩, h1⟩), hn', fun b _ hb => fr b fun e => hb (o.block e)⟩
  obtain ⟨bs', o', bl'⟩ := ow.tree
  have : bs' = bs := by
    generalize ht : T.l 1 (strs (marksS k0 zs.length)) = t at o'
    generalize ht2 : T.l 1 (strs zs) = t2 at o
    cases o' with
    | raw => cases ht
    | nil => cases o with | nil => rfl | raw => cases ht2
    | row p1 p2 p3 p4 p5 =>
      cases o with
      | raw => cases ht2
      | row q1 q2 q3 q4 q5 =>
        simp only [T.l.injEq] at ht ht2
        obtain ⟨rfl, rfl⟩ := ht
        obtain ⟨rfl, rfl⟩ := ht2
        rw [strs_T, flat_cells] at p5 q5
        rw [OTs.raws_bs p5, OTs.raws_bs q5]
  rw [← this]; exact o'
end Go.Bi
end
section
set_option linter.unusedSimpArgs false
set_option linter.unusedVariables false
namespace Go.Bi
open Go.Ai (plainS)
theorem getD_mem {α : Type} [Inhabited α] {l : List α} {i : Nat} (h : i < l.length) : l.getD i default ∈ l := by
  rw [List.getD_eq_getElem?_getD, List.getElem?_eq_getElem h]; exact List.getElem_mem h
theorem take_next {α : Type} [Inhabited α] {l : List α} {i : Nat} (h : i < l.length) : l.take (i + 1) = l.take i ++ [l.getD i default] := by
  rw [List.take_succ_eq_append_getElem h, List.getD_eq_getElem?_getD, List.getElem?_eq_getElem h]; rfl
def sumN {α : Type} (f : α → Nat) : List α → Nat
  | [] => 0
  | x :: l => f x + sumN f l
theorem sumN_append {α : Type} {f : α → Nat} : ∀ {l m : List α}, sumN f (l ++ m) = sumN f l + sumN f m
  | [], _ => by simp [sumN]
  | x :: l, m => by simp only [List.cons_append, sumN, sumN_append]; omega
theorem sumN_take {α : Type} [Inhabited α] {f : α → Nat} {l : List α} {i : Nat} (h : i < l.length) : sumN f (l.take (i + 1)) = sumN f (l.take i) + f (l.getD i default) := by
  rw [take_next h, sumN_append]; simp [sumN]
theorem sumN_mem {α : Type} {f : α → Nat} {x : α} : ∀ {l : List α}, x ∈ l → f x ≤ sumN f l
  | y :: l, h => by
    rcases List.mem_cons.1 h with rfl | h
    · simp only [sumN]; omega
    · have := sumN_mem (f := f) h; simp only [sumN]; omega
theorem up_self {h : H2} : h = h.up (hn h .mk) := rfl
theorem OTs.append {g : H2} : ∀ {bs bs' : List Nat} {xs ys : List X} {ts us : List T}, OTs g bs xs ts → OTs g bs' ys us → OTs g (bs ++ bs') (xs ++ ys) (ts ++ us)
  | _, _, _, _, _, _, .nil, h => by simpa using h
  | _, _, _, _, _, _, .cons a b, h => by
    have := OTs.cons a (OTs.append b h)
    simpa only [List.append_assoc, List.cons_append] using this
theorem OT.okx {g : H2} {bs : List Nat} {x : X} {t : T} (o : OT g bs x t) : okX x = true ∧ cellsX x = some [x] := by
  cases o with
  | raw hp => rename_i v; cases v <;> first | exact ⟨rfl, rfl⟩ | simp [plainS] at hp
  | nil => exact ⟨rfl, rfl⟩
  | row => exact ⟨rfl, rfl⟩
theorem OTs.okx {g : H2} : ∀ {bs : List Nat} {xs : List X} {ts : List T}, OTs g bs xs ts → xs.all okX = true
  | _, _, _, .nil => rfl
  | _, _, _, .cons a b => by simp only [List.all_cons, a.okx.1, b.okx, Bool.and_self]
theorem OTs.one {g : H2} {bs : List Nat} {x : X} {t : T} (o : OT g bs x t) : OTs g bs [x] [t] := by
  have := OTs.cons o OTs.nil
  simpa using this
theorem flat_next {α : Type} [Inhabited α] {E : α → List T} {l : List α} {i : Nat} (h : i < l.length) : ((l.take (i + 1)).map E).flatten = ((l.take i).map E).flatten ++ E (l.getD i default) := by
  rw [take_next h]; simp
theorem wrt_next {cs ys : List X} {k n z : Nat} (hc : cs.length = n * z) (hk : k < n) (hy : ys.length = z) : wrtL cs (k * z) ys = some (cs.take (k * z) ++ ys ++ cs.drop (k * z + z)) ∧ (cs.take (k * z) ++ ys ++ cs.drop (k * z + z)).length = n * z ∧ (cs.take (k * z) ++ ys ++ cs.drop (k * z + z)).take ((k + 1) * z) = cs.take (k * z) ++ ys := by
  have h1 : k * z + z ≤ n * z := by rw [← Nat.succ_mul]; exact Nat.mul_le_mul_right z hk
  refine ⟨?_, ?_, ?_⟩
  · simp only [wrtL, hy]; rw [if_pos (by omega)]
  · simp only [List.length_append, List.length_take, List.length_drop, hy]; omega
  · rw [List.take_append_of_le_length (by simp only [List.length_append, List.length_take, hy, Nat.succ_mul]; omega)]
    rw [List.take_of_length_le (by simp only [List.length_append, List.length_take, hy, Nat.succ_mul]; omega)]
theorem OT.full {g : H2} {b z : Nat} {bs : List Nat} {cs : List X} {α : Type} {E : α → List T} {l : List α} (hE : ∀ a, (E a).length = z) (hb : hg g b .mk = some ⟨z, cs⟩) (hc : cs.length = l.length * z) (o : OTs g bs (cs.take (l.length * z)) ((l.take l.length).map E).flatten) (bl : Bl (b + 1) (hn g .mk) bs) (hlt : b < hn g .mk) :
    OT g (b :: bs) (.raw (.slice (some ⟨b, 0, none⟩) l.length l.length)) (.l z (l.map E)) ∧ Bl b (hn g .mk) (b :: bs) := by
  refine ⟨.row hb hc (by simp) (fun e he => ?_) ?_, ?_⟩
  · obtain ⟨a, _, rfl⟩ := List.mem_map.1 he; exact hE a
  · rw [List.take_of_length_le (by omega), List.take_of_length_le (Nat.le_refl _)] at o; exact o
  · refine ⟨List.nodup_cons.2 ⟨fun h => by have := (bl.2 b h).1; omega, bl.1⟩, fun x hx => ?_⟩
    rcases List.mem_cons.1 hx with rfl | hx
    · omega
    · have := bl.2 x hx; omega
end Go.Bi
end
