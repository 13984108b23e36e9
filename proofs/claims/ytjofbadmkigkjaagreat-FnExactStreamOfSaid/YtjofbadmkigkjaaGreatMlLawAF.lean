/- Own lemmas that the theorem of this claim needs: the abstract machine and walks of functions. -/
import Derived.Test.YtjofbadmkigkjaaGreatMlLawAA
import Derived.Test.YtjofbadmkigkjaaGreatMlLawAB
import Derived.Test.YtjofbadmkigkjaaGreatMlLawAC
import Derived.Test.YtjofbadmkigkjaaGreatMlLawAD
import Derived.Test.YtjofbadmkigkjaaGreatMlLawAE
section
set_option linter.unusedSimpArgs false
set_option linter.unusedVariables false
set_option maxRecDepth 20000
namespace Go.Bi
open Go.Proofs
open Go.Ai (wrap_i64 wrap_u8)
variable {W0 : World}
theorem hoo (x : Nat) : (x == x) = true := by simp
theorem nat_nn (k : Nat) : ((0 : Int) ≤ (k : Int)) = True := eq_true (Int.natCast_nonneg k)
theorem wrap_succ {k n : Nat} (hk : k < n) (hn : n ≤ 9223372036854775807) : IntKind.i64.wrap ((k : Int) + 1) = ((k + 1 : Nat) : Int) := by rw [wrap_i64] <;> omega
theorem hbo (b : ByteArray) : (b.toList == b.toList) = true := by simp
attribute [go_sem] hoo hbo nat_nn Int.toNat_natCast eq_self not_true_eq_false Int.natCast_zero true_and and_true
variable {P : Program} {K : KT}
def isU8 : Option Go.Ai.Cls → Bool
  | some (.int .u8) => true
  | _ => false
theorem isU8_t : isU8 (some (.int .u8)) = true := rfl
def strO (o : Option (List UInt8)) (h : H2) : Option (X × H2) := match o with | some bs => some (.raw (.string ⟨bs.toArray⟩), h) | none => none
theorem strO_some {bs : List UInt8} {h : H2} : strO (some bs) h = some (.raw (.string ⟨bs.toArray⟩), h) := rfl
theorem cv_src {s d : TypeId} {h : H2} {x : X} {n : Nat} {l : List X} (hs : Go.Ai.cls? P s = some .sl) (hd : Go.Ai.cls? P d = some .str) (he : (Go.Ai.elt? P s).isSome = true) (hz : (Go.Ai.eltZ (Go.Ai.elt? P s) == 1) = true) (hc : isU8 (Go.Ai.cls? P (Go.Ai.eltT (Go.Ai.elt? P s))) = true)
    (hx : srcX h 1 x = some (n, l)) : convz P h s d x .mk = strO (bytesX l) h := by
  simp only [convz, convX, hs, hd]
  cases hq : Go.Ai.elt? P s with
  | none => rw [hq] at he; cases he
  | some q =>
    obtain ⟨u, z, b⟩ := q
    rw [hq] at hz hc
    simp only [Go.Ai.eltZ, beq_iff_eq] at hz
    subst hz
    simp only [hx]
    simp only [Go.Ai.eltT] at hc
    cases hu : Go.Ai.cls? P u with
    | none => rw [hu] at hc; cases hc
    | some c =>
      rw [hu] at hc
      cases c <;> try cases hc
      rename_i k
      cases k <;> try cases hc
      cases bytesX l <;> rfl
theorem cv_bytes {s d : TypeId} {h : H2} {f : Adr} {es : List (List T)} (hs : Go.Ai.cls? P s = some .sl) (hd : Go.Ai.cls? P d = some .str) (he : (Go.Ai.elt? P s).isSome = true) (hz : (Go.Ai.eltZ (Go.Ai.elt? P s) == 1) = true) (hc : isU8 (Go.Ai.cls? P (Go.Ai.eltT (Go.Ai.elt? P s))) = true) :
    convz P h s d (.sl f 1 es) .mk = strO (bytesX (flatX f 0 es)) h := cv_src hs hd he hz hc rfl
theorem flat_nil {f : Adr} {i : Nat} : flatX f i [] = [] := rfl
theorem flat_cons {f : Adr} {i : Nat} {e : List T} {r : List (List T)} : flatX f i (e :: r) = mkL (under f i) 0 e ++ flatX f (i + 1) r := rfl
def byO (b : UInt8) (o : Option (List UInt8)) : Option (List UInt8) := match o with | some r => some (b :: r) | none => none
theorem byO_some {b : UInt8} {r : List UInt8} : byO b (some r) = some (b :: r) := rfl
theorem by_nil : bytesX [] = some [] := rfl
theorem by_cons {x : Int} {l : List X} : bytesX (.raw (.int .u8 x) :: l) = byO (UInt8.ofNat x.toNat) (bytesX l) := by simp only [bytesX, Go.Ai.byteV, byO]; cases bytesX l <;> rfl
def cB (b : UInt8) : X := .raw (.int .u8 b.toNat)
theorem bytes_map : ∀ {bs : List UInt8}, bytesX (bs.map cB) = some bs
  | [] => rfl
  | b :: bs => by simp only [List.map_cons, cB, by_cons, bytes_map, byO, Int.toNat_natCast, UInt8.ofNat_toNat]
attribute [go_sem] isU8_t strO_some cv_bytes flat_nil flat_cons byO_some by_nil by_cons List.cons_append List.nil_append
def inI (x a b : Int) : Bool := decide (a ≤ x) && decide (x ≤ b)
theorem l01In_ok {x a b : Int} {h : H2} : WC2 Tryz.prog W0 52 [.raw (.int .i64 x), .raw (.int .i64 a), .raw (.int .i64 b)] h (fun v h' => v = .raw (.bool (inI x a b)) ∧ h' = h) := by
  refine start (P := Tryz.prog) [[0, 1, 2], [0, 1, 2]] (by kernel_rfl) Tryz.func52 rfl (by decide) (by decide +kernel) (rs := [.tmp 6]) rfl rfl (Nat.le_of_ble_eq_true rfl) ?_
  intro wf
  repeat (first | rw [kz_o] | rw [kz_r0] | simp -dsimp -implicitDefEqProofs only [go_sem, Nat.reduceBEq, Nat.reduceAdd, Nat.reduceLeDiff, Nat.reduceMul, Int.reduceLE, Int.reduceLT, Int.reduceBEq])
  refine gz_dec (fun h1 => ?_) (fun h1 => ?_)
  · repeat (first | rw [kz_o] | rw [kz_r0] | simp -dsimp -implicitDefEqProofs only [go_sem, Nat.reduceBEq, Nat.reduceAdd, Nat.reduceLeDiff, Nat.reduceMul, Int.reduceLE, Int.reduceLT, Int.reduceBEq, h1])
    exact ⟨by simp [inI, h1], rfl⟩
  · repeat (first | rw [kz_o] | rw [kz_r0] | simp -dsimp -implicitDefEqProofs only [go_sem, Nat.reduceBEq, Nat.reduceAdd, Nat.reduceLeDiff, Nat.reduceMul, Int.reduceLE, Int.reduceLT, Int.reduceBEq, h1])
    exact ⟨by simp [inI, h1], rfl⟩
theorem in_ok {x a b : Int} {h : H2} : WC2 Tryz.prog W0 49 [.raw (.int .i64 x), .raw (.int .i64 a), .raw (.int .i64 b)] h (fun v h' => v = .raw (.bool (inI x a b)) ∧ h' = h) := by
  refine start (P := Tryz.prog) [[0, 1, 2], [0, 1, 2]] (by kernel_rfl) Tryz.func49 rfl (by decide) (by decide +kernel) (rs := [.tmp 6]) rfl rfl (Nat.le_of_ble_eq_true rfl) ?_
  intro wf
  repeat (first | rw [kz_o] | rw [kz_r0] | simp -dsimp -implicitDefEqProofs only [go_sem, Nat.reduceBEq, Nat.reduceAdd, Nat.reduceLeDiff, Nat.reduceMul, Int.reduceLE, Int.reduceLT, Int.reduceBEq])
  refine gz_dec (fun h1 => ?_) (fun h1 => ?_)
  · repeat (first | rw [kz_o] | rw [kz_r0] | simp -dsimp -implicitDefEqProofs only [go_sem, Nat.reduceBEq, Nat.reduceAdd, Nat.reduceLeDiff, Nat.reduceMul, Int.reduceLE, Int.reduceLT, Int.reduceBEq, h1])
    exact ⟨by simp [inI, h1], rfl⟩
  · repeat (first | rw [kz_o] | rw [kz_r0] | simp -dsimp -implicitDefEqProofs only [go_sem, Nat.reduceBEq, Nat.reduceAdd, Nat.reduceLeDiff, Nat.reduceMul, Int.reduceLE, Int.reduceLT, Int.reduceBEq, h1])
    exact ⟨by simp [inI, h1], rfl⟩
theorem indexI_ok {F : FuncId} {p : Int → Bool} {caps : List Value} {f : Adr} {ss : List Int} {h : H2} (hn0 : ss.length ≤ 9223372036854775807)
    (hf : ∀ s, WC2 Tryz.prog W0 F ([.raw (.int .i64 s)] ++ caps.map .raw) h (fun v h' => v = .raw (.bool (p s)) ∧ h' = h)) :
    WC2 Tryz.prog W0 214 [.sl f 1 (ints ss), .raw (.func (.func F) #[] caps.toArray)] h (fun v h' => (∃ k : Int, v = .raw (.int .i64 k) ∧ decide (0 ≤ k) = ss.any p) ∧ h' = h) := by
  refine start (P := Tryz.prog) [[0, 1], [0, 1], [0, 1, 7, 8], [0, 1, 7, 8], [0, 1, 5, 7, 8], [5], [0, 1, 7, 8], []] (by kernel_rfl) Tryz.func214 rfl (by decide) (by decide +kernel) (rs := [.tmp 4]) rfl rfl (Nat.le_of_ble_eq_true rfl) ?_
  intro wf
  repeat (first | rw [kz_o] | rw [kz_r0] | simp -dsimp -implicitDefEqProofs only [go_sem, Nat.reduceBEq, Nat.reduceAdd, Nat.reduceLeDiff, Nat.reduceMul, Int.reduceLE, Int.reduceLT, Int.reduceBEq])
  refine lz_intro (fun m e h' => h' = h ∧ look e 0 .mk = .sl f 1 (ints ss) ∧ look e 1 .mk = .raw (.func (.func F) #[] caps.toArray) ∧ look e 7 .mk = .raw (.int .i64 ss.length) ∧ ∃ k : Nat, look e 8 .mk = .raw (.int .i64 k) ∧ m + k = ss.length ∧ ∀ j : Nat, j < k → p (ss.getD j default) = false) ss.length ?_ ?_
  · refine ⟨rfl, ?_, ?_, ?_, 0, ?_, by omega, fun j hj => by omega⟩ <;> simp -dsimp -implicitDefEqProofs only [go_sem, Nat.reduceBEq, Nat.reduceAdd, Nat.reduceLeDiff, Nat.reduceMul, Int.reduceLE, Int.reduceLT, Int.reduceBEq, Int.natCast_zero]
  · rintro m e h ⟨rfl, e0, e1, e7, k, e8, hk, hpre⟩
    repeat (first | rw [kz_o] | rw [kz_r0] | simp -dsimp -implicitDefEqProofs only [go_sem, Nat.reduceBEq, Nat.reduceAdd, Nat.reduceLeDiff, Nat.reduceMul, Int.reduceLE, Int.reduceLT, Int.reduceBEq, e0, e1, e7, e8])
    refine gz_dec (fun h2 => ?_) (fun h2 => ?_)
    · have h3 : k < ss.length := by omega
      repeat (first | rw [kz_o] | rw [kz_r0] | simp -dsimp -implicitDefEqProofs only [go_sem, Nat.reduceBEq, Nat.reduceAdd, Nat.reduceLeDiff, Nat.reduceMul, Int.reduceLE, Int.reduceLT, Int.reduceBEq, e0, e1, e7, e8, nat_nn, Int.toNat_natCast, h3])
      refine wz_intro (hf _) ?_
      rintro _ h' ⟨rfl, rfl⟩
      repeat (first | rw [kz_o] | rw [kz_r0] | simp -dsimp -implicitDefEqProofs only [go_sem, Nat.reduceBEq, Nat.reduceAdd, Nat.reduceLeDiff, Nat.reduceMul, Int.reduceLE, Int.reduceLT, Int.reduceBEq, e0, e1, e7, e8])
      refine gz_intro (fun h4 => ?_) (fun h4 => ?_)
      · repeat (first | rw [kz_o] | rw [kz_r0] | simp -dsimp -implicitDefEqProofs only [go_sem, Nat.reduceBEq, Nat.reduceAdd, Nat.reduceLeDiff, Nat.reduceMul, Int.reduceLE, Int.reduceLT, Int.reduceBEq, e0, e1, e7, e8])
        refine ⟨⟨_, rfl, ?_⟩, rfl⟩
        have : ss.any p = true := List.any_eq_true.2 ⟨_, List.getElem_mem h3, by rw [List.getD_eq_getElem?_getD, List.getElem?_eq_getElem h3] at h4; exact h4⟩
        rw [this]; simp
      · repeat (first | rw [kz_o] | rw [kz_r0] | simp -dsimp -implicitDefEqProofs only [go_sem, Nat.reduceBEq, Nat.reduceAdd, Nat.reduceLeDiff, Nat.reduceMul, Int.reduceLE, Int.reduceLT, Int.reduceBEq, e0, e1, e7, e8, wrap_succ h3 hn0])
        refine ⟨m - 1, by omega, rfl, ?_, ?_, ?_, k + 1, ?_, by omega, ?_⟩
        · simp -dsimp -implicitDefEqProofs only [go_sem, Nat.reduceBEq, Nat.reduceAdd, Nat.reduceLeDiff, Nat.reduceMul, Int.reduceLE, Int.reduceLT, Int.reduceBEq]
        · simp -dsimp -implicitDefEqProofs only [go_sem, Nat.reduceBEq, Nat.reduceAdd, Nat.reduceLeDiff, Nat.reduceMul, Int.reduceLE, Int.reduceLT, Int.reduceBEq]
        · simp -dsimp -implicitDefEqProofs only [go_sem, Nat.reduceBEq, Nat.reduceAdd, Nat.reduceLeDiff, Nat.reduceMul, Int.reduceLE, Int.reduceLT, Int.reduceBEq]
        · simp -dsimp -implicitDefEqProofs only [go_sem, Nat.reduceBEq, Nat.reduceAdd, Nat.reduceLeDiff, Nat.reduceMul, Int.reduceLE, Int.reduceLT, Int.reduceBEq]
        · intro j hj
          by_cases hji : j = k
          · subst hji; exact h4
          · exact hpre j (by omega)
    · repeat (first | rw [kz_o] | rw [kz_r0] | simp -dsimp -implicitDefEqProofs only [go_sem, Nat.reduceBEq, Nat.reduceAdd, Nat.reduceLeDiff, Nat.reduceMul, Int.reduceLE, Int.reduceLT, Int.reduceBEq, e0, e1, e7, e8])
      refine ⟨⟨_, rfl, ?_⟩, rfl⟩
      have : ss.any p = false := by
        rw [List.any_eq_false]
        intro x hx
        obtain ⟨j, hj, rfl⟩ := List.getElem_of_mem hx
        have := hpre j (by omega)
        rw [List.getD_eq_getElem?_getD, List.getElem?_eq_getElem hj] at this
        simpa using this
      rw [this]; rfl
end Go.Bi
end
section
set_option linter.unusedSimpArgs false
set_option linter.unusedVariables false
set_option maxRecDepth 20000
namespace Go.Bi
open Go.Proofs
open Go.Ai (wrap_i64 wrap_u8)
variable {W0 : World}
variable {P : Program} {D : Nat → Option (List Nat)} {e : E2} {K : KT}
theorem make_intro {h : H2} {t u z y : Nat} {zs : List Value} {l : Int} (he : Ai.elt? P t = some (u, z, y)) (hz : Ai.zr? P u = some zs) (h1 : zs.length = z ∧ 0 < z) (h2 : 0 ≤ l ∧ l.toNat * (y + 1) ≤ Ai.most)
    (hk : kz K (.raw (.slice (some ⟨hn h .mk, 0, none⟩) l.toNat l.toNat)) (h.push ⟨z, (Ai.repL l.toNat zs).map .raw⟩) .mk) : az (makez P h t (.raw (.int .i64 l)) (.raw (.int .i64 l)) .mk) K .mk := by
  have : makez P h t (.raw (.int .i64 l)) (.raw (.int .i64 l)) .mk = some (.raw (.slice (some ⟨h.n, 0, none⟩) l.toNat l.toNat), h.push ⟨z, (Ai.repL l.toNat zs).map .raw⟩) := by
    simp only [makez, makeSliceX, he, hz]
    rw [if_pos ⟨h1.1, h1.2, trivial, h2.1, h2.2⟩]
  rw [this]; exact hk
theorem wrt_set {cs : List X} {o : Nat} {v : X} (ho : o < cs.length) : wrtL cs o [v] = some (cs.set o v) := by
  simp only [wrtL, List.length_cons, List.length_nil]
  rw [if_pos (by omega)]
  congr 1
  rw [List.set_eq_take_append_cons_drop, if_pos ho]
  simp
theorem H2.le_push1 (h : H2) (k : OB) : h.le (h.push k) := le_push (H2.le.refl h)
theorem set_push {h : H2} {k k' : OB} : (h.push k).set (hn h .mk) k' = h.push k' := by
  unfold H2.set H2.push hn; congr 1; funext x; by_cases hx : x = h.n <;> simp [hx]
theorem set_set {h : H2} {b : Nat} {k k' : OB} : (h.set b k).set b k' = h.set b k' := by
  unfold H2.set; congr 1; funext x; by_cases hx : x = b <;> simp [hx]
def eS (s : ByteArray) : List T := [.v (.string s)]
theorem eS_def {s : ByteArray} : eS s = [.v (.string s)] := rfl
def strs (ss : List ByteArray) : List (List T) := ss.map eS
theorem strs_len {ss : List ByteArray} : (strs ss).length = ss.length := by simp [strs]
theorem strs_el {ss : List ByteArray} {i : Nat} (hi : i < ss.length) : el (strs ss) i = eS (ss.getD i default) := el_map hi
attribute [go_sem] eS_def strs_len strs_el set_push set_set
theorem szIntS_ok {f : Adr} {zs : List Int} {left : Int} {h : H2} (hn0 : zs.length ≤ 9223372036854775807) (hl : 0 ≤ left ∧ left ≤ 1048576) : WC2 Tryz.prog W0 74 [.sl f 1 (ints zs), .raw (.int .i64 left)] h (fun v h' => (∃ k : Int, v = .raw (.int .i64 k) ∧ (0 ≤ k → (zs.length : Int) + k ≤ left)) ∧ h' = h) := by
  have hw : IntKind.i64.wrap (left - zs.length) = left - zs.length := by rw [wrap_i64] <;> omega
  refine start (P := Tryz.prog) [[0, 1], [0, 1], [1], [], [1]] (by kernel_rfl) Tryz.func74 rfl (by decide) (by decide +kernel) (rs := [.tmp 4]) rfl rfl (Nat.le_of_ble_eq_true rfl) ?_
  intro wf
  repeat (first | rw [kz_o] | rw [kz_r0] | simp -dsimp -implicitDefEqProofs only [go_sem, Nat.reduceBEq, Nat.reduceAdd, Nat.reduceLeDiff, Nat.reduceMul, Int.reduceLE, Int.reduceLT, Int.reduceBEq, hw])
  refine gz_dec (fun h1 => ?_) (fun h1 => ?_)
  · repeat (first | rw [kz_o] | rw [kz_r0] | simp -dsimp -implicitDefEqProofs only [go_sem, Nat.reduceBEq, Nat.reduceAdd, Nat.reduceLeDiff, Nat.reduceMul, Int.reduceLE, Int.reduceLT, Int.reduceBEq])
    exact ⟨⟨_, rfl, fun hh => by omega⟩, rfl⟩
  · repeat (first | rw [kz_o] | rw [kz_r0] | simp -dsimp -implicitDefEqProofs only [go_sem, Nat.reduceBEq, Nat.reduceAdd, Nat.reduceLeDiff, Nat.reduceMul, Int.reduceLE, Int.reduceLT, Int.reduceBEq])
    exact ⟨⟨_, rfl, fun hh => by omega⟩, rfl⟩
theorem toIntS_ok {f : Adr} {zs : List Int} {h : H2} (hn0 : zs.length ≤ 1048576) :
    WC2 Tryz.prog W0 38 [.sl f 1 (ints zs)] h (fun v h' => h.le h' ∧ Own (hn h .mk) h' v 1 zs.length (zs.map (fun (z : Int) => X.raw (.int .i64 z)))) := by
  refine start (P := Tryz.prog) [[0], [0], [0, 3], [0, 3, 4], [0, 3, 4], [0, 3, 4], [3]] (by kernel_rfl) Tryz.func38 rfl (by decide) (by decide +kernel) (rs := [.tmp 2]) rfl rfl (Nat.le_of_ble_eq_true rfl) ?_
  intro wf
  repeat (first | rw [kz_o] | rw [kz_r0] | simp -dsimp -implicitDefEqProofs only [go_sem, Nat.reduceBEq, Nat.reduceAdd, Nat.reduceLeDiff, Nat.reduceMul, Int.reduceLE, Int.reduceLT, Int.reduceBEq])
  refine make_intro Ai.ty_el27 Ai.ty_zr3 (by decide) ⟨by omega, by simp only [Int.toNat_natCast]; have : Ai.most = 1099511627776 := rfl; omega⟩ ?_
  repeat (first | rw [kz_o] | rw [kz_r0] | simp -dsimp -implicitDefEqProofs only [go_sem, Nat.reduceBEq, Nat.reduceAdd, Nat.reduceLeDiff, Nat.reduceMul, Int.reduceLE, Int.reduceLT, Int.reduceBEq])
  refine lz_keep [0, 3] (fun m e h' => ∃ (k : Nat) (cs : List X), look e 4 .mk = .raw (.int .i64 k) ∧ m + k = zs.length ∧ h' = h.push ⟨1, cs⟩ ∧ cs.length = zs.length ∧ ∀ j : Nat, j < k → cs[j]? = (zs.map (fun (z : Int) => X.raw (.int .i64 z)))[j]?) zs.length ?_ ?_
  · exact ⟨0, _, by simp -dsimp -implicitDefEqProofs only [go_sem, Nat.reduceBEq, Nat.reduceAdd, Nat.reduceLeDiff, Nat.reduceMul, Int.reduceLE, Int.reduceLT, Int.reduceBEq, Int.natCast_zero], by omega, rfl, by simp [Ai.rep_one], fun j hj => by omega⟩
  · rintro m e h' hks ⟨k, cs, e4, hk, rfl, hcs, hpre⟩
    simp -dsimp -implicitDefEqProofs only [go_sem, Nat.reduceBEq, Nat.reduceAdd, Nat.reduceLeDiff, Nat.reduceMul, Int.reduceLE, Int.reduceLT, Int.reduceBEq, Int.toNat_natCast] at hks
    repeat (first | rw [kz_o] | rw [kz_r0] | simp -dsimp -implicitDefEqProofs only [go_sem, Nat.reduceBEq, Nat.reduceAdd, Nat.reduceLeDiff, Nat.reduceMul, Int.reduceLE, Int.reduceLT, Int.reduceBEq, hks, e4])
    refine gz_dec (fun h2 => ?_) (fun h2 => ?_)
    · have h3 : k < zs.length := by omega
      have hw2 : wrtL cs k [.raw (.int .i64 (zs.getD k default))] = some (cs.set k (.raw (.int .i64 (zs.getD k default)))) := wrt_set (by omega)
      have hi2 : (0 : Int) ≤ (k : Int) ∧ (k : Int) < (zs.length : Int) := by omega
      repeat (first | rw [kz_o] | rw [kz_r0] | simp -dsimp -implicitDefEqProofs only [go_sem, Nat.reduceBEq, Nat.reduceAdd, Nat.reduceLeDiff, Nat.reduceMul, Int.reduceLE, Int.reduceLT, Int.reduceBEq, hks, e4, nat_nn, Int.toNat_natCast, h3, hoo, hw2, hi2, wrap_succ h3 (by omega)])
      refine nx_keep (m - 1) (by omega) (by simp -dsimp -implicitDefEqProofs only [go_sem, Nat.reduceBEq, Nat.reduceAdd, Nat.reduceLeDiff, Nat.reduceMul, Int.reduceLE, Int.reduceLT, Int.reduceBEq, hks]) ⟨k + 1, _, by simp -dsimp -implicitDefEqProofs only [go_sem, Nat.reduceBEq, Nat.reduceAdd, Nat.reduceLeDiff, Nat.reduceMul, Int.reduceLE, Int.reduceLT, Int.reduceBEq], by omega, rfl, by simpa using hcs, ?_⟩
      intro j hj
      by_cases hji : j = k
      · subst hji
        rw [List.getElem?_set_self (by omega), List.getElem?_map, List.getD_eq_getElem?_getD, List.getElem?_eq_getElem h3]; rfl
      · rw [List.getElem?_set_ne (fun e => hji e.symm)]
        exact hpre j (by omega)
    · repeat (first | rw [kz_o] | rw [kz_r0] | simp -dsimp -implicitDefEqProofs only [go_sem, Nat.reduceBEq, Nat.reduceAdd, Nat.reduceLeDiff, Nat.reduceMul, Int.reduceLE, Int.reduceLT, Int.reduceBEq, hks, e4])
      refine ⟨H2.le_push1 h _, ?_⟩
      have : cs = zs.map (fun (z : Int) => X.raw (.int .i64 z)) := by
        apply List.ext_getElem?
        intro j
        by_cases hj : j < k
        · exact hpre j hj
        · rw [List.getElem?_eq_none (by omega), List.getElem?_eq_none (by simp; omega)]
      rw [this]
      exact Own.new (Nat.le_refl _) (by simp)
theorem eqIntS_ok {f f' : Adr} {zs : List Int} {h : H2} (hn0 : zs.length ≤ 9223372036854775807) :
    WC2 Tryz.prog W0 41 [.sl f 1 (ints zs), .sl f' 1 (ints zs)] h (fun v h' => v = .raw (.bool true) ∧ h' = h) := by
  refine start (P := Tryz.prog) [[0, 1], [0, 1], [], [0, 1], [0, 1, 5], [0, 1, 5], [0, 1, 5], [], []] (by kernel_rfl) Tryz.func41 rfl (by decide) (by decide +kernel) (rs := [.tmp 4]) rfl rfl (Nat.le_of_ble_eq_true rfl) ?_
  intro wf
  repeat (first | rw [kz_o] | rw [kz_r0] | simp -dsimp -implicitDefEqProofs only [go_sem, Nat.reduceBEq, Nat.reduceAdd, Nat.reduceLeDiff, Nat.reduceMul, Int.reduceLE, Int.reduceLT, Int.reduceBEq])
  refine lz_keep [0, 1] (fun m e h' => h' = h ∧ ∃ k : Nat, look e 5 .mk = .raw (.int .i64 k) ∧ m + k = zs.length) zs.length ?_ ?_
  · exact ⟨rfl, 0, by simp -dsimp -implicitDefEqProofs only [go_sem, Nat.reduceBEq, Nat.reduceAdd, Nat.reduceLeDiff, Nat.reduceMul, Int.reduceLE, Int.reduceLT, Int.reduceBEq, Int.natCast_zero], by omega⟩
  · rintro m e h hks ⟨rfl, k, e5, hk⟩
    simp -dsimp -implicitDefEqProofs only [go_sem, Nat.reduceBEq, Nat.reduceAdd, Nat.reduceLeDiff, Nat.reduceMul, Int.reduceLE, Int.reduceLT, Int.reduceBEq] at hks
    repeat (first | rw [kz_o] | rw [kz_r0] | simp -dsimp -implicitDefEqProofs only [go_sem, Nat.reduceBEq, Nat.reduceAdd, Nat.reduceLeDiff, Nat.reduceMul, Int.reduceLE, Int.reduceLT, Int.reduceBEq, hks, e5])
    refine gz_dec (fun h2 => ?_) (fun h2 => ?_)
    · have h3 : k < zs.length := by omega
      repeat (first | rw [kz_o] | rw [kz_r0] | simp -dsimp -implicitDefEqProofs only [go_sem, Nat.reduceBEq, Nat.reduceAdd, Nat.reduceLeDiff, Nat.reduceMul, Int.reduceLE, Int.reduceLT, Int.reduceBEq, hks, e5])
      refine dq_intro [(0, []), (1, []), (2, []), (3, []), (4, []), (5, []), (6, []), (7, []), (8, [])] (by kernel_rfl) ?_
      repeat (first | rw [kz_o] | rw [kz_r0] | simp -dsimp -implicitDefEqProofs only [go_sem, Nat.reduceBEq, Nat.reduceAdd, Nat.reduceLeDiff, Nat.reduceMul, Int.reduceLE, Int.reduceLT, Int.reduceBEq, hks, e5, nat_nn, Int.toNat_natCast, h3, hoo, hbo, not_true_eq_false, wrap_succ h3 hn0])
      exact nx_keep (m - 1) (by omega) (by simp -dsimp -implicitDefEqProofs only [go_sem, Nat.reduceBEq, Nat.reduceAdd, Nat.reduceLeDiff, Nat.reduceMul, Int.reduceLE, Int.reduceLT, Int.reduceBEq, hks]) ⟨rfl, k + 1, by simp -dsimp -implicitDefEqProofs only [go_sem, Nat.reduceBEq, Nat.reduceAdd, Nat.reduceLeDiff, Nat.reduceMul, Int.reduceLE, Int.reduceLT, Int.reduceBEq], by omega⟩
    · repeat (first | rw [kz_o] | rw [kz_r0] | simp -dsimp -implicitDefEqProofs only [go_sem, Nat.reduceBEq, Nat.reduceAdd, Nat.reduceLeDiff, Nat.reduceMul, Int.reduceLE, Int.reduceLT, Int.reduceBEq, hks, e5])
      exact ⟨rfl, rfl⟩
theorem toStringS_ok {f : Adr} {zs : List ByteArray} {h : H2} (hn0 : zs.length ≤ 1048576) :
    WC2 Tryz.prog W0 112 [.sl f 1 (strs zs)] h (fun v h' => h.le h' ∧ Own (hn h .mk) h' v 1 zs.length (zs.map (fun (z : ByteArray) => X.raw (.string z)))) := by
  refine start (P := Tryz.prog) [[0], [0], [0, 3], [0, 3, 4], [0, 3, 4], [0, 3, 4], [3]] (by kernel_rfl) Tryz.func112 rfl (by decide) (by decide +kernel) (rs := [.tmp 2]) rfl rfl (Nat.le_of_ble_eq_true rfl) ?_
  intro wf
  repeat (first | rw [kz_o] | rw [kz_r0] | simp -dsimp -implicitDefEqProofs only [go_sem, Nat.reduceBEq, Nat.reduceAdd, Nat.reduceLeDiff, Nat.reduceMul, Int.reduceLE, Int.reduceLT, Int.reduceBEq])
  refine make_intro Ai.ty_el47 Ai.ty_zr9 (by decide) ⟨by omega, by simp only [Int.toNat_natCast]; have : Ai.most = 1099511627776 := rfl; omega⟩ ?_
  repeat (first | rw [kz_o] | rw [kz_r0] | simp -dsimp -implicitDefEqProofs only [go_sem, Nat.reduceBEq, Nat.reduceAdd, Nat.reduceLeDiff, Nat.reduceMul, Int.reduceLE, Int.reduceLT, Int.reduceBEq])
  refine lz_keep [0, 3] (fun m e h' => ∃ (k : Nat) (cs : List X), look e 4 .mk = .raw (.int .i64 k) ∧ m + k = zs.length ∧ h' = h.push ⟨1, cs⟩ ∧ cs.length = zs.length ∧ ∀ j : Nat, j < k → cs[j]? = (zs.map (fun (z : ByteArray) => X.raw (.string z)))[j]?) zs.length ?_ ?_
  · exact ⟨0, _, by simp -dsimp -implicitDefEqProofs only [go_sem, Nat.reduceBEq, Nat.reduceAdd, Nat.reduceLeDiff, Nat.reduceMul, Int.reduceLE, Int.reduceLT, Int.reduceBEq, Int.natCast_zero], by omega, rfl, by simp [Ai.rep_one], fun j hj => by omega⟩
  · rintro m e h' hks ⟨k, cs, e4, hk, rfl, hcs, hpre⟩
    simp -dsimp -implicitDefEqProofs only [go_sem, Nat.reduceBEq, Nat.reduceAdd, Nat.reduceLeDiff, Nat.reduceMul, Int.reduceLE, Int.reduceLT, Int.reduceBEq, Int.toNat_natCast] at hks
    repeat (first | rw [kz_o] | rw [kz_r0] | simp -dsimp -implicitDefEqProofs only [go_sem, Nat.reduceBEq, Nat.reduceAdd, Nat.reduceLeDiff, Nat.reduceMul, Int.reduceLE, Int.reduceLT, Int.reduceBEq, hks, e4])
    refine gz_dec (fun h2 => ?_) (fun h2 => ?_)
    · have h3 : k < zs.length := by omega
      have hw2 : wrtL cs k [.raw (.string (zs.getD k default))] = some (cs.set k (.raw (.string (zs.getD k default)))) := wrt_set (by omega)
      have hi2 : (0 : Int) ≤ (k : Int) ∧ (k : Int) < (zs.length : Int) := by omega
      repeat (first | rw [kz_o] | rw [kz_r0] | simp -dsimp -implicitDefEqProofs only [go_sem, Nat.reduceBEq, Nat.reduceAdd, Nat.reduceLeDiff, Nat.reduceMul, Int.reduceLE, Int.reduceLT, Int.reduceBEq, hks, e4, nat_nn, Int.toNat_natCast, h3, hoo, hw2, hi2, wrap_succ h3 (by omega)])
      refine nx_keep (m - 1) (by omega) (by simp -dsimp -implicitDefEqProofs only [go_sem, Nat.reduceBEq, Nat.reduceAdd, Nat.reduceLeDiff, Nat.reduceMul, Int.reduceLE, Int.reduceLT, Int.reduceBEq, hks]) ⟨k + 1, _, by simp -dsimp -implicitDefEqProofs only [go_sem, Nat.reduceBEq, Nat.reduceAdd, Nat.reduceLeDiff, Nat.reduceMul, Int.reduceLE, Int.reduceLT, Int.reduceBEq], by omega, rfl, by simpa using hcs, ?_⟩
      intro j hj
      by_cases hji : j = k
      · subst hji
        rw [List.getElem?_set_self (by omega), List.getElem?_map, List.getD_eq_getElem?_getD, List.getElem?_eq_getElem h3]; rfl
      · rw [List.getElem?_set_ne (fun e => hji e.symm)]
        exact hpre j (by omega)
    · repeat (first | rw [kz_o] | rw [kz_r0] | simp -dsimp -implicitDefEqProofs only [go_sem, Nat.reduceBEq, Nat.reduceAdd, Nat.reduceLeDiff, Nat.reduceMul, Int.reduceLE, Int.reduceLT, Int.reduceBEq, hks, e4])
      refine ⟨H2.le_push1 h _, ?_⟩
      have : cs = zs.map (fun (z : ByteArray) => X.raw (.string z)) := by
        apply List.ext_getElem?
        intro j
        by_cases hj : j < k
        · exact hpre j hj
        · rw [List.getElem?_eq_none (by omega), List.getElem?_eq_none (by simp; omega)]
      rw [this]
      exact Own.new (Nat.le_refl _) (by simp)
theorem eqStringS_ok {f f' : Adr} {zs : List ByteArray} {h : H2} (hn0 : zs.length ≤ 9223372036854775807) :
    WC2 Tryz.prog W0 114 [.sl f 1 (strs zs), .sl f' 1 (strs zs)] h (fun v h' => v = .raw (.bool true) ∧ h' = h) := by
  refine start (P := Tryz.prog) [[0, 1], [0, 1], [], [0, 1], [0, 1, 5], [0, 1, 5], [0, 1, 5], [], []] (by kernel_rfl) Tryz.func114 rfl (by decide) (by decide +kernel) (rs := [.tmp 4]) rfl rfl (Nat.le_of_ble_eq_true rfl) ?_
  intro wf
  repeat (first | rw [kz_o] | rw [kz_r0] | simp -dsimp -implicitDefEqProofs only [go_sem, Nat.reduceBEq, Nat.reduceAdd, Nat.reduceLeDiff, Nat.reduceMul, Int.reduceLE, Int.reduceLT, Int.reduceBEq])
  refine lz_keep [0, 1] (fun m e h' => h' = h ∧ ∃ k : Nat, look e 5 .mk = .raw (.int .i64 k) ∧ m + k = zs.length) zs.length ?_ ?_
  · exact ⟨rfl, 0, by simp -dsimp -implicitDefEqProofs only [go_sem, Nat.reduceBEq, Nat.reduceAdd, Nat.reduceLeDiff, Nat.reduceMul, Int.reduceLE, Int.reduceLT, Int.reduceBEq, Int.natCast_zero], by omega⟩
  · rintro m e h hks ⟨rfl, k, e5, hk⟩
    simp -dsimp -implicitDefEqProofs only [go_sem, Nat.reduceBEq, Nat.reduceAdd, Nat.reduceLeDiff, Nat.reduceMul, Int.reduceLE, Int.reduceLT, Int.reduceBEq] at hks
    repeat (first | rw [kz_o] | rw [kz_r0] | simp -dsimp -implicitDefEqProofs only [go_sem, Nat.reduceBEq, Nat.reduceAdd, Nat.reduceLeDiff, Nat.reduceMul, Int.reduceLE, Int.reduceLT, Int.reduceBEq, hks, e5])
    refine gz_dec (fun h2 => ?_) (fun h2 => ?_)
    · have h3 : k < zs.length := by omega
      repeat (first | rw [kz_o] | rw [kz_r0] | simp -dsimp -implicitDefEqProofs only [go_sem, Nat.reduceBEq, Nat.reduceAdd, Nat.reduceLeDiff, Nat.reduceMul, Int.reduceLE, Int.reduceLT, Int.reduceBEq, hks, e5])
      refine dq_intro [(0, []), (1, []), (2, []), (3, []), (4, []), (5, []), (6, []), (7, []), (8, [])] (by kernel_rfl) ?_
      repeat (first | rw [kz_o] | rw [kz_r0] | simp -dsimp -implicitDefEqProofs only [go_sem, Nat.reduceBEq, Nat.reduceAdd, Nat.reduceLeDiff, Nat.reduceMul, Int.reduceLE, Int.reduceLT, Int.reduceBEq, hks, e5, nat_nn, Int.toNat_natCast, h3, hoo, hbo, not_true_eq_false, wrap_succ h3 hn0])
      exact nx_keep (m - 1) (by omega) (by simp -dsimp -implicitDefEqProofs only [go_sem, Nat.reduceBEq, Nat.reduceAdd, Nat.reduceLeDiff, Nat.reduceMul, Int.reduceLE, Int.reduceLT, Int.reduceBEq, hks]) ⟨rfl, k + 1, by simp -dsimp -implicitDefEqProofs only [go_sem, Nat.reduceBEq, Nat.reduceAdd, Nat.reduceLeDiff, Nat.reduceMul, Int.reduceLE, Int.reduceLT, Int.reduceBEq], by omega⟩
    · repeat (first | rw [kz_o] | rw [kz_r0] | simp -dsimp -implicitDefEqProofs only [go_sem, Nat.reduceBEq, Nat.reduceAdd, Nat.reduceLeDiff, Nat.reduceMul, Int.reduceLE, Int.reduceLT, Int.reduceBEq, hks, e5])
      exact ⟨rfl, rfl⟩
def sumL (ss : List ByteArray) : Nat := (ss.map ByteArray.size).sum
theorem sumL_take {ss : List ByteArray} {k : Nat} (hk : k < ss.length) : sumL (ss.take (k + 1)) = sumL (ss.take k) + (ss.getD k default).size := by
  unfold sumL
  rw [List.take_succ_eq_append_getElem hk, List.getD_eq_getElem?_getD, List.getElem?_eq_getElem hk, List.map_append, List.sum_append]; rfl
theorem szStringS_ok {f : Adr} {zs : List ByteArray} {left : Int} {h : H2} (hn0 : zs.length ≤ 9223372036854775807) (hs0 : ∀ s ∈ zs, s.size ≤ 9223372036854775807) (hl : 0 ≤ left ∧ left ≤ 1048576) :
    WC2 Tryz.prog W0 108 [.sl f 1 (strs zs), .raw (.int .i64 left)] h (fun v h' => (∃ k : Int, v = .raw (.int .i64 k) ∧ (0 ≤ k → (zs.length : Int) + sumL zs + k ≤ left)) ∧ h' = h) := by
  have hw : IntKind.i64.wrap (left - zs.length) = left - zs.length := by rw [wrap_i64] <;> omega
  refine start (P := Tryz.prog) [[0, 1], [0, 1], [0, 1], [], [0, 1], [0, 1, 5], [0, 1, 5], [0, 1, 5], [0, 1, 5], [], [1]] (by kernel_rfl) Tryz.func108 rfl (by decide) (by decide +kernel) (rs := [.tmp 4]) rfl rfl (Nat.le_of_ble_eq_true rfl) ?_
  intro wf
  repeat (first | rw [kz_o] | rw [kz_r0] | simp -dsimp -implicitDefEqProofs only [go_sem, Nat.reduceBEq, Nat.reduceAdd, Nat.reduceLeDiff, Nat.reduceMul, Int.reduceLE, Int.reduceLT, Int.reduceBEq, hw])
  refine gz_dec (fun h1 => ?_) (fun h1 => ?_)
  · repeat (first | rw [kz_o] | rw [kz_r0] | simp -dsimp -implicitDefEqProofs only [go_sem, Nat.reduceBEq, Nat.reduceAdd, Nat.reduceLeDiff, Nat.reduceMul, Int.reduceLE, Int.reduceLT, Int.reduceBEq])
    exact ⟨⟨_, rfl, fun hh => by omega⟩, rfl⟩
  · repeat (first | rw [kz_o] | rw [kz_r0] | simp -dsimp -implicitDefEqProofs only [go_sem, Nat.reduceBEq, Nat.reduceAdd, Nat.reduceLeDiff, Nat.reduceMul, Int.reduceLE, Int.reduceLT, Int.reduceBEq])
    refine lz_keep [0] (fun m e h' => h' = h ∧ ∃ (k : Nat) (x : Int), look e 5 .mk = .raw (.int .i64 k) ∧ look e 1 .mk = .raw (.int .i64 x) ∧ 0 ≤ x ∧ (zs.length : Int) + sumL (zs.take k) + x = left ∧ m + k = zs.length) zs.length ?_ ?_
    · exact ⟨rfl, 0, left - zs.length, by simp -dsimp -implicitDefEqProofs only [go_sem, Nat.reduceBEq, Nat.reduceAdd, Nat.reduceLeDiff, Nat.reduceMul, Int.reduceLE, Int.reduceLT, Int.reduceBEq], by simp -dsimp -implicitDefEqProofs only [go_sem, Nat.reduceBEq, Nat.reduceAdd, Nat.reduceLeDiff, Nat.reduceMul, Int.reduceLE, Int.reduceLT, Int.reduceBEq], by omega, by simp [sumL]; omega, by omega⟩
    · rintro m e h hks ⟨rfl, k, x, e5, e1, hx, hsum, hk⟩
      simp -dsimp -implicitDefEqProofs only [go_sem, Nat.reduceBEq, Nat.reduceAdd, Nat.reduceLeDiff, Nat.reduceMul, Int.reduceLE, Int.reduceLT, Int.reduceBEq] at hks
      repeat (first | rw [kz_o] | rw [kz_r0] | simp -dsimp -implicitDefEqProofs only [go_sem, Nat.reduceBEq, Nat.reduceAdd, Nat.reduceLeDiff, Nat.reduceMul, Int.reduceLE, Int.reduceLT, Int.reduceBEq, hks, e5, e1])
      refine gz_dec (fun h2 => ?_) (fun h2 => ?_)
      · have h3 : k < zs.length := by omega
        have hsz := hs0 (zs.getD k default) (by rw [List.getD_eq_getElem?_getD, List.getElem?_eq_getElem h3]; exact List.getElem_mem h3)
        have hw2 : IntKind.i64.wrap (x - (zs.getD k default).size) = x - (zs.getD k default).size := by rw [wrap_i64] <;> omega
        repeat (first | rw [kz_o] | rw [kz_r0] | simp -dsimp -implicitDefEqProofs only [go_sem, Nat.reduceBEq, Nat.reduceAdd, Nat.reduceLeDiff, Nat.reduceMul, Int.reduceLE, Int.reduceLT, Int.reduceBEq, hks, e5, e1, h3, hw2, wrap_succ h3 hn0])
        refine gz_dec (fun h4 => ?_) (fun h4 => ?_)
        · repeat (first | rw [kz_o] | rw [kz_r0] | simp -dsimp -implicitDefEqProofs only [go_sem, Nat.reduceBEq, Nat.reduceAdd, Nat.reduceLeDiff, Nat.reduceMul, Int.reduceLE, Int.reduceLT, Int.reduceBEq])
          exact ⟨⟨_, rfl, fun hh => by omega⟩, rfl⟩
        · repeat (first | rw [kz_o] | rw [kz_r0] | simp -dsimp -implicitDefEqProofs only [go_sem, Nat.reduceBEq, Nat.reduceAdd, Nat.reduceLeDiff, Nat.reduceMul, Int.reduceLE, Int.reduceLT, Int.reduceBEq, hks, e5, e1, h3, hw2, wrap_succ h3 hn0])
          exact nx_keep (m - 1) (by omega) (by simp -dsimp -implicitDefEqProofs only [go_sem, Nat.reduceBEq, Nat.reduceAdd, Nat.reduceLeDiff, Nat.reduceMul, Int.reduceLE, Int.reduceLT, Int.reduceBEq, hks]) ⟨rfl, k + 1, x - (zs.getD k default).size, by simp -dsimp -implicitDefEqProofs only [go_sem, Nat.reduceBEq, Nat.reduceAdd, Nat.reduceLeDiff, Nat.reduceMul, Int.reduceLE, Int.reduceLT, Int.reduceBEq], by simp -dsimp -implicitDefEqProofs only [go_sem, Nat.reduceBEq, Nat.reduceAdd, Nat.reduceLeDiff, Nat.reduceMul, Int.reduceLE, Int.reduceLT, Int.reduceBEq], by omega, by have := sumL_take h3; omega, by omega⟩
      · repeat (first | rw [kz_o] | rw [kz_r0] | simp -dsimp -implicitDefEqProofs only [go_sem, Nat.reduceBEq, Nat.reduceAdd, Nat.reduceLeDiff, Nat.reduceMul, Int.reduceLE, Int.reduceLT, Int.reduceBEq, hks, e5, e1])
        refine ⟨⟨x, rfl, fun _ => ?_⟩, rfl⟩
        rw [List.take_of_length_le (by omega)] at hsum
        omega
abbrev cS (s : ByteArray) : X := .raw (.string s)
def OwnS (N : Nat) (g : H2) (v : X) (zs : List ByteArray) : Prop := Own N g v 1 zs.length (zs.map cS)
end Go.Bi
end
section
set_option linter.unusedSimpArgs false
set_option linter.unusedVariables false
namespace Go.Bi
open Go.Proofs
open Go.Ai (plainS)
variable {W0 : World}
theorem up_up {h : H2} {n m : Nat} : (h.up n).up m = h.up m := rfl
attribute [go_sem] up_up
theorem OTs.head {g : H2} {bs : List Nat} {ys : List X} {t : T} {ts : List T} (o : OTs g bs ys (t :: ts)) : ∃ b1 b2 y ys', bs = b1 ++ b2 ∧ ys = y :: ys' ∧ OT g b1 y t ∧ OTs g b2 ys' ts := by
  cases o with | cons a b => exact ⟨_, _, _, _, rfl, rfl, a, b⟩
theorem OTs.headv {g : H2} {bs : List Nat} {ys : List X} {v : Value} {ts : List T} (o : OTs g bs ys (.v v :: ts)) : ∃ ys', ys = .raw v :: ys' ∧ OTs g bs ys' ts := by
  cases o with | cons a b => cases a; exact ⟨_, rfl, b⟩
theorem OTs.tail0 {g : H2} {bs : List Nat} {ys : List X} (o : OTs g bs ys []) : bs = [] ∧ ys = [] := by cases o; exact ⟨rfl, rfl⟩
theorem szIntS_pw {f : Adr} {zs : List Int} {left : Int} {h : H2} (hn0 : zs.length ≤ 9223372036854775807) (hl : 0 ≤ left ∧ left ≤ 1048576) : PW Tryz.prog W0 74 [.sl f 1 (ints zs), .raw (.int .i64 left)] h (fun y => ∃ k : Int, y = .raw (.int .i64 k) ∧ (0 ≤ k → (zs.length : Int) + k ≤ left)) :=
  PW.scalar ((szIntS_ok hn0 hl).mono fun y g' ⟨⟨k, h1, h2⟩, h3⟩ => ⟨by rw [h3]; exact H2.le.refl _, ⟨_, h1⟩, k, h1, h2⟩)
theorem szStringS_pw {f : Adr} {zs : List ByteArray} {left : Int} {h : H2} (hn0 : zs.length ≤ 9223372036854775807 ∧ ∀ s ∈ zs, s.size ≤ 9223372036854775807) (hl : 0 ≤ left ∧ left ≤ 1048576) : PW Tryz.prog W0 108 [.sl f 1 (strs zs), .raw (.int .i64 left)] h (fun y => ∃ k : Int, y = .raw (.int .i64 k) ∧ (0 ≤ k → (zs.length : Int) + sumL zs + k ≤ left)) :=
  PW.scalar ((szStringS_ok hn0.1 hn0.2 hl).mono fun y g' ⟨⟨k, h1, h2⟩, h3⟩ => ⟨by rw [h3]; exact H2.le.refl _, ⟨_, h1⟩, k, h1, h2⟩)
theorem eqIntS_pw {f f' : Adr} {zs : List Int} {h : H2} (hn0 : zs.length ≤ 9223372036854775807) : PW Tryz.prog W0 41 [.sl f 1 (ints zs), .sl f' 1 (ints zs)] h (fun y => y = .raw (.bool true)) :=
  PW.scalar ((eqIntS_ok hn0).mono fun y g' ⟨h1, h3⟩ => ⟨by rw [h3]; exact H2.le.refl _, ⟨_, h1⟩, h1⟩)
theorem eqStringS_pw {f f' : Adr} {zs : List ByteArray} {h : H2} (hn0 : zs.length ≤ 9223372036854775807) : PW Tryz.prog W0 114 [.sl f 1 (strs zs), .sl f' 1 (strs zs)] h (fun y => y = .raw (.bool true)) :=
  PW.scalar ((eqStringS_ok hn0).mono fun y g' ⟨h1, h3⟩ => ⟨by rw [h3]; exact H2.le.refl _, ⟨_, h1⟩, h1⟩)
theorem strs_T {zs : List ByteArray} : strs zs = (zs.map Value.string).map fun v => [T.v v] := by simp [strs, eS, Function.comp_def]
theorem OwnS.tree {g : H2} {N : Nat} {x : X} {zs : List ByteArray} (o : OwnS N g x zs) : ∃ bs, OT g bs x (.l 1 (strs zs)) ∧ Bl N (hn g .mk) bs := by
  obtain ⟨hl, hc⟩ := o
  rcases hc with ⟨rfl, h0⟩ | ⟨b, rfl, h1, h2, h3⟩
  · have : zs = [] := List.eq_nil_of_length_eq_zero h0
    subst this
    exact ⟨[], .nil, .nil⟩
  · have e : zs.map cS = (zs.map Value.string).map .raw := by simp [Function.comp_def]
    rw [e] at h3
    have := OT.flat (N := N) h3 (fun v hv => by obtain ⟨z, _, rfl⟩ := List.mem_map.1 hv; rfl)
    rw [← strs_T, List.length_map] at this
    exact ⟨[b], this, (Bl.one h2).wide h1 (Nat.le_refl _)⟩
theorem toIntS_new {f : Adr} {zs : List Int} {h : H2} (hn0 : zs.length ≤ 1048576) : NewT Tryz.prog W0 38 [.sl f 1 (ints zs)] h (.l 1 (ints zs)) :=
  (toIntS_ok hn0).mono fun v h' ⟨h1, h2⟩ => ⟨h1, OwnI.tree h2⟩
theorem toStringS_new {f : Adr} {zs : List ByteArray} {h : H2} (hn0 : zs.length ≤ 1048576) : NewT Tryz.prog W0 112 [.sl f 1 (strs zs)] h (.l 1 (strs zs)) :=
  (toStringS_ok hn0).mono fun v h' ⟨h1, h2⟩ => ⟨h1, OwnS.tree h2⟩
theorem OT.cell {g : H2} {bs : List Nat} {x : X} {z : Nat} {es : List (List T)} (o : OT g bs x (.l z es)) : cellsX x = some [x] ∧ okX x = true ∧ isTpX x = false := by
  generalize ht : T.l z es = t at o
  cases o with
  | raw => cases ht
  | nil => exact ⟨rfl, rfl, rfl⟩
  | row => exact ⟨rfl, rfl, rfl⟩
theorem Bl.split {N M : Nat} {a b : List Nat} (l : Bl N M (a ++ b)) : Bl N M a ∧ Bl N M b ∧ ∀ x ∈ a, x ∉ b := by
  obtain ⟨h1, h2⟩ := l
  rw [List.nodup_append] at h1
  exact ⟨⟨h1.1, fun x hx => h2 x (by simp [hx])⟩, ⟨h1.2.1, fun x hx => h2 x (by simp [hx])⟩, fun x hx hy => h1.2.2 x hx x hy rfl⟩
end Go.Bi
end
section
set_option linter.unusedSimpArgs false
set_option linter.unusedVariables false
namespace Go.Bi
open Go.Ai (plainS)
theorem getD_mem {α : Type} [Inhabited α] {l : List α} {i : Nat} (h : i < l.length) : l.getD i default ∈ l := by
  rw [List.getD_eq_getElem?_getD, List.getElem?_eq_getElem h]; exact List.getElem_mem h
theorem take_next {α : Type} [Inhabited α] {l : List α} {i : Nat} (h : i < l.length) : l.take (i + 1) = l.take i ++ [l.getD i default] := by
  rw [List.take_succ_eq_append_getElem h, List.getD_eq_getElem?_getD, List.getElem?_eq_getElem h]; rfl
def sumN {α : Type} (f : α → Nat) : List α → Nat
  | [] => 0
  | x :: l => f x + sumN f l
theorem sumN_append {α : Type} {f : α → Nat} : ∀ {l m : List α}, sumN f (l ++ m) = sumN f l + sumN f m
  | [], _ => by simp [sumN]
  | x :: l, m => by simp only [List.cons_append, sumN, sumN_append]; omega
theorem sumN_take {α : Type} [Inhabited α] {f : α → Nat} {l : List α} {i : Nat} (h : i < l.length) : sumN f (l.take (i + 1)) = sumN f (l.take i) + f (l.getD i default) := by
  rw [take_next h, sumN_append]; simp [sumN]
theorem sumN_mem {α : Type} {f : α → Nat} {x : α} : ∀ {l : List α}, x ∈ l → f x ≤ sumN f l
  | y :: l, h => by
    rcases List.mem_cons.1 h with rfl | h
    · simp only [sumN]; omega
    · have := sumN_mem (f := f) h; simp only [sumN]; omega
theorem up_self {h : H2} : h = h.up (hn h .mk) := rfl
theorem OTs.append {g : H2} : ∀ {bs bs' : List Nat} {xs ys : List X} {ts us : List T}, OTs g bs xs ts → OTs g bs' ys us → OTs g (bs ++ bs') (xs ++ ys) (ts ++ us)
  | _, _, _, _, _, _, .nil, h => by simpa using h
  | _, _, _, _, _, _, .cons a b, h => by
    have := OTs.cons a (OTs.append b h)
    simpa only [List.append_assoc, List.cons_append] using this
theorem OT.okx {g : H2} {bs : List Nat} {x : X} {t : T} (o : OT g bs x t) : okX x = true ∧ cellsX x = some [x] := by
  cases o with
  | raw hp => rename_i v; cases v <;> first | exact ⟨rfl, rfl⟩ | simp [plainS] at hp
  | nil => exact ⟨rfl, rfl⟩
  | row => exact ⟨rfl, rfl⟩
theorem OTs.okx {g : H2} : ∀ {bs : List Nat} {xs : List X} {ts : List T}, OTs g bs xs ts → xs.all okX = true
  | _, _, _, .nil => rfl
  | _, _, _, .cons a b => by simp only [List.all_cons, a.okx.1, b.okx, Bool.and_self]
theorem OTs.one {g : H2} {bs : List Nat} {x : X} {t : T} (o : OT g bs x t) : OTs g bs [x] [t] := by
  have := OTs.cons o OTs.nil
  simpa using this
theorem flat_next {α : Type} [Inhabited α] {E : α → List T} {l : List α} {i : Nat} (h : i < l.length) : ((l.take (i + 1)).map E).flatten = ((l.take i).map E).flatten ++ E (l.getD i default) := by
  rw [take_next h]; simp
theorem wrt_next {cs ys : List X} {k n z : Nat} (hc : cs.length = n * z) (hk : k < n) (hy : ys.length = z) : wrtL cs (k * z) ys = some (cs.take (k * z) ++ ys ++ cs.drop (k * z + z)) ∧ (cs.take (k * z) ++ ys ++ cs.drop (k * z + z)).length = n * z ∧ (cs.take (k * z) ++ ys ++ cs.drop (k * z + z)).take ((k + 1) * z) = cs.take (k * z) ++ ys := by
  have h1 : k * z + z ≤ n * z := by rw [← Nat.succ_mul]; exact Nat.mul_le_mul_right z hk
  refine ⟨?_, ?_, ?_⟩
  · simp only [wrtL, hy]; rw [if_pos (by omega)]
  · simp only [List.length_append, List.length_take, List.length_drop, hy]; omega
  · rw [List.take_append_of_le_length (by simp only [List.length_append, List.length_take, hy, Nat.succ_mul]; omega)]
    rw [List.take_of_length_le (by simp only [List.length_append, List.length_take, hy, Nat.succ_mul]; omega)]
theorem OT.full {g : H2} {b z : Nat} {bs : List Nat} {cs : List X} {α : Type} {E : α → List T} {l : List α} (hE : ∀ a, (E a).length = z) (hb : hg g b .mk = some ⟨z, cs⟩) (hc : cs.length = l.length * z) (o : OTs g bs (cs.take (l.length * z)) ((l.take l.length).map E).flatten) (bl : Bl (b + 1) (hn g .mk) bs) (hlt : b < hn g .mk) :
    OT g (b :: bs) (.raw (.slice (some ⟨b, 0, none⟩) l.length l.length)) (.l z (l.map E)) ∧ Bl b (hn g .mk) (b :: bs) := by
  refine ⟨.row hb hc (by simp) (fun e he => ?_) ?_, ?_⟩
  · obtain ⟨a, _, rfl⟩ := List.mem_map.1 he; exact hE a
  · rw [List.take_of_length_le (by omega), List.take_of_length_le (Nat.le_refl _)] at o; exact o
  · refine ⟨List.nodup_cons.2 ⟨fun h => by have := (bl.2 b h).1; omega, bl.1⟩, fun x hx => ?_⟩
    rcases List.mem_cons.1 hx with rfl | hx
    · omega
    · have := bl.2 x hx; omega
end Go.Bi
end
section
set_option linter.unusedSimpArgs false
set_option linter.unusedVariables false
set_option maxRecDepth 20000
namespace Go.Bi
open Go.Proofs
open Go.Ai (wrap_i64 wrap_u8)
variable {W0 : World}
def eIntS (zs : List Int) : List T := [.l 1 (ints zs)]
theorem eIntS_def {zs : List Int} : eIntS zs = [.l 1 (ints zs)] := rfl
attribute [go_sem] eIntS_def
def szIntS (zs : List Int) : Nat := zs.length
def fitIntS (zs : List Int) : Prop := zs.length ≤ 9223372036854775807
def rIntSS (zs : List (List Int)) : List (List T) := zs.map eIntS
theorem rIntSS_len {zs : List (List Int)} : (rIntSS zs).length = zs.length := by simp [rIntSS]
theorem rIntSS_el {zs : List (List Int)} {i : Nat} (hi : i < zs.length) : el (rIntSS zs) i = eIntS (zs.getD i default) := el_map hi
attribute [go_sem] rIntSS_len rIntSS_el
def szIntSS (zs : List (List Int)) : Nat := zs.length + sumN szIntS zs
def fitIntSS (zs : List (List Int)) : Prop := zs.length ≤ 9223372036854775807 ∧ ∀ x ∈ zs, fitIntS x
theorem szIntSS_pw {f : Adr} {zs : List (List Int)} {left : Int} {h : H2} (hf : fitIntSS zs) (hl : 0 ≤ left ∧ left ≤ 1048576) : PW Tryz.prog W0 72 [.sl f 1 (rIntSS zs), .raw (.int .i64 left)] h (fun y => ∃ k : Int, y = .raw (.int .i64 k) ∧ (0 ≤ k → (szIntSS zs : Int) + k ≤ left)) := by
  obtain ⟨hf1, hf2⟩ := hf
  unfold szIntSS
  have hw : IntKind.i64.wrap (left - zs.length) = left - zs.length := by rw [wrap_i64] <;> omega
  refine PW.scalar ?_
  refine start (P := Tryz.prog) [[0, 1], [0, 1], [0, 1], [], [0, 1], [0, 1, 5], [0, 1, 5], [0, 1, 5], [0, 1, 5], [], [1]] (by kernel_rfl) Tryz.func72 rfl (by decide) (by decide +kernel) (rs := [.tmp 4]) rfl rfl (Nat.le_of_ble_eq_true rfl) ?_
  intro wf
  repeat (first | rw [kz_o] | rw [kz_r0] | simp -dsimp -implicitDefEqProofs only [go_sem, Nat.reduceBEq, Nat.reduceAdd, Nat.reduceLeDiff, Nat.reduceMul, Int.reduceLE, Int.reduceLT, Int.reduceBEq, hw])
  refine gz_dec (fun h1 => ?_) (fun h1 => ?_)
  · repeat (first | rw [kz_o] | rw [kz_r0] | simp -dsimp -implicitDefEqProofs only [go_sem, Nat.reduceBEq, Nat.reduceAdd, Nat.reduceLeDiff, Nat.reduceMul, Int.reduceLE, Int.reduceLT, Int.reduceBEq])
    exact ⟨H2.le.refl _, ⟨_, rfl⟩, _, rfl, fun hh => by omega⟩
  · repeat (first | rw [kz_o] | rw [kz_r0] | simp -dsimp -implicitDefEqProofs only [go_sem, Nat.reduceBEq, Nat.reduceAdd, Nat.reduceLeDiff, Nat.reduceMul, Int.reduceLE, Int.reduceLT, Int.reduceBEq])
    refine lz_keep [0] (fun m e h' => ∃ (k n : Nat) (x : Int), h' = h.up n ∧ hn h .mk ≤ n ∧ look e 5 .mk = .raw (.int .i64 k) ∧ look e 1 .mk = .raw (.int .i64 x) ∧ 0 ≤ x ∧ (zs.length : Int) + sumN szIntS (zs.take k) + x ≤ left ∧ m + k = zs.length) zs.length ?_ ?_
    · exact ⟨0, hn h .mk, left - zs.length, up_self, Nat.le_refl _, by simp -dsimp -implicitDefEqProofs only [go_sem, Nat.reduceBEq, Nat.reduceAdd, Nat.reduceLeDiff, Nat.reduceMul, Int.reduceLE, Int.reduceLT, Int.reduceBEq], by simp -dsimp -implicitDefEqProofs only [go_sem, Nat.reduceBEq, Nat.reduceAdd, Nat.reduceLeDiff, Nat.reduceMul, Int.reduceLE, Int.reduceLT, Int.reduceBEq], by omega, by simp [sumN]; omega, by omega⟩
    · rintro m e h' hks ⟨k, n, x, rfl, hnn, e5, e1, hx, hsum, hk⟩
      simp -dsimp -implicitDefEqProofs only [go_sem, Nat.reduceBEq, Nat.reduceAdd, Nat.reduceLeDiff, Nat.reduceMul, Int.reduceLE, Int.reduceLT, Int.reduceBEq] at hks
      by_cases h2 : (k : Int) < (zs.length : Int)
      · have h3 : k < zs.length := by omega
        have hst : sumN szIntS (zs.take (k + 1)) = sumN szIntS (zs.take k) + (zs.getD k default).length := sumN_take (f := szIntS) h3
        repeat (first | rw [kz_o] | rw [kz_r0] | simp -dsimp -implicitDefEqProofs only [go_sem, Nat.reduceBEq, Nat.reduceAdd, Nat.reduceLeDiff, Nat.reduceMul, Int.reduceLE, Int.reduceLT, Int.reduceBEq, hks, e5, e1, h2, h3])
        refine pw_intro (szIntS_pw (hf2 _ (getD_mem h3)) ⟨by omega, by omega⟩) ?_
        rintro _ n2 hn2 ⟨x2, rfl, hx2⟩
        simp only [hn_up] at hn2
        repeat (first | rw [kz_o] | rw [kz_r0] | simp -dsimp -implicitDefEqProofs only [go_sem, Nat.reduceBEq, Nat.reduceAdd, Nat.reduceLeDiff, Nat.reduceMul, Int.reduceLE, Int.reduceLT, Int.reduceBEq])
        refine gz_dec (fun h4 => ?_) (fun h4 => ?_)
        · repeat (first | rw [kz_o] | rw [kz_r0] | simp -dsimp -implicitDefEqProofs only [go_sem, Nat.reduceBEq, Nat.reduceAdd, Nat.reduceLeDiff, Nat.reduceMul, Int.reduceLE, Int.reduceLT, Int.reduceBEq])
          exact ⟨(by first | exact le_up (H2.le.refl _) (by omega) | exact le_up (le_up (H2.le.refl _) hnn) (by rw [hn_up]; omega)), ⟨_, rfl⟩, _, rfl, fun hh => by omega⟩
        · repeat (first | rw [kz_o] | rw [kz_r0] | simp -dsimp -implicitDefEqProofs only [go_sem, Nat.reduceBEq, Nat.reduceAdd, Nat.reduceLeDiff, Nat.reduceMul, Int.reduceLE, Int.reduceLT, Int.reduceBEq, hks, e5, wrap_succ h3 hf1])
          exact nx_keep (m - 1) (by omega) (by simp -dsimp -implicitDefEqProofs only [go_sem, Nat.reduceBEq, Nat.reduceAdd, Nat.reduceLeDiff, Nat.reduceMul, Int.reduceLE, Int.reduceLT, Int.reduceBEq, hks]) ⟨k + 1, n2, x2, up_up, by omega, by simp -dsimp -implicitDefEqProofs only [go_sem, Nat.reduceBEq, Nat.reduceAdd, Nat.reduceLeDiff, Nat.reduceMul, Int.reduceLE, Int.reduceLT, Int.reduceBEq], by simp -dsimp -implicitDefEqProofs only [go_sem, Nat.reduceBEq, Nat.reduceAdd, Nat.reduceLeDiff, Nat.reduceMul, Int.reduceLE, Int.reduceLT, Int.reduceBEq], by omega, by have := hx2 (by omega); omega, by omega⟩
      · repeat (first | rw [kz_o] | rw [kz_r0] | simp -dsimp -implicitDefEqProofs only [go_sem, Nat.reduceBEq, Nat.reduceAdd, Nat.reduceLeDiff, Nat.reduceMul, Int.reduceLE, Int.reduceLT, Int.reduceBEq, hks, e5, e1, h2])
        refine ⟨le_up (H2.le.refl _) hnn, ⟨_, rfl⟩, x, rfl, fun _ => ?_⟩
        rw [List.take_of_length_le (by omega)] at hsum
        omega
theorem eqIntSS_pw {f f' : Adr} {zs : List (List Int)} {h : H2} (hf : fitIntSS zs) : PW Tryz.prog W0 83 [.sl f 1 (rIntSS zs), .sl f' 1 (rIntSS zs)] h (fun y => y = .raw (.bool true)) := by
  obtain ⟨hf1, hf2⟩ := hf
  refine PW.scalar ?_
  refine start (P := Tryz.prog) [[0, 1], [0, 1], [], [0, 1], [0, 1, 5], [0, 1, 5], [0, 1, 5], [], []] (by kernel_rfl) Tryz.func83 rfl (by decide) (by decide +kernel) (rs := [.tmp 4]) rfl rfl (Nat.le_of_ble_eq_true rfl) ?_
  intro wf
  repeat (first | rw [kz_o] | rw [kz_r0] | simp -dsimp -implicitDefEqProofs only [go_sem, Nat.reduceBEq, Nat.reduceAdd, Nat.reduceLeDiff, Nat.reduceMul, Int.reduceLE, Int.reduceLT, Int.reduceBEq])
  refine lz_keep [0, 1] (fun m e h' => ∃ (k n : Nat), h' = h.up n ∧ hn h .mk ≤ n ∧ look e 5 .mk = .raw (.int .i64 k) ∧ m + k = zs.length) zs.length ?_ ?_
  · exact ⟨0, hn h .mk, up_self, Nat.le_refl _, by simp -dsimp -implicitDefEqProofs only [go_sem, Nat.reduceBEq, Nat.reduceAdd, Nat.reduceLeDiff, Nat.reduceMul, Int.reduceLE, Int.reduceLT, Int.reduceBEq], by omega⟩
  · rintro m e h' hks ⟨k, n, rfl, hnn, e5, hk⟩
    simp -dsimp -implicitDefEqProofs only [go_sem, Nat.reduceBEq, Nat.reduceAdd, Nat.reduceLeDiff, Nat.reduceMul, Int.reduceLE, Int.reduceLT, Int.reduceBEq] at hks
    by_cases h2 : (k : Int) < (zs.length : Int)
    · have h3 : k < zs.length := by omega
      repeat (first | rw [kz_o] | rw [kz_r0] | simp -dsimp -implicitDefEqProofs only [go_sem, Nat.reduceBEq, Nat.reduceAdd, Nat.reduceLeDiff, Nat.reduceMul, Int.reduceLE, Int.reduceLT, Int.reduceBEq, hks, e5, h2])
      refine dq_intro [(0, []), (1, []), (2, []), (3, []), (4, []), (5, []), (6, []), (7, []), (8, []), (9, [])] (by kernel_rfl) ?_
      repeat (first | rw [kz_o] | rw [kz_r0] | simp -dsimp -implicitDefEqProofs only [go_sem, Nat.reduceBEq, Nat.reduceAdd, Nat.reduceLeDiff, Nat.reduceMul, Int.reduceLE, Int.reduceLT, Int.reduceBEq, hks, e5, h3])
      refine pw_intro (eqIntS_pw (hf2 _ (getD_mem h3))) ?_
      rintro _ n2 hn2 rfl
      simp only [hn_up] at hn2
      repeat (first | rw [kz_o] | rw [kz_r0] | simp -dsimp -implicitDefEqProofs only [go_sem, Nat.reduceBEq, Nat.reduceAdd, Nat.reduceLeDiff, Nat.reduceMul, Int.reduceLE, Int.reduceLT, Int.reduceBEq, hks, e5, wrap_succ h3 hf1])
      exact nx_keep (m - 1) (by omega) (by simp -dsimp -implicitDefEqProofs only [go_sem, Nat.reduceBEq, Nat.reduceAdd, Nat.reduceLeDiff, Nat.reduceMul, Int.reduceLE, Int.reduceLT, Int.reduceBEq, hks]) ⟨k + 1, n2, up_up, by omega, by simp -dsimp -implicitDefEqProofs only [go_sem, Nat.reduceBEq, Nat.reduceAdd, Nat.reduceLeDiff, Nat.reduceMul, Int.reduceLE, Int.reduceLT, Int.reduceBEq], by omega⟩
    · repeat (first | rw [kz_o] | rw [kz_r0] | simp -dsimp -implicitDefEqProofs only [go_sem, Nat.reduceBEq, Nat.reduceAdd, Nat.reduceLeDiff, Nat.reduceMul, Int.reduceLE, Int.reduceLT, Int.reduceBEq, hks, e5, h2])
      exact ⟨le_up (H2.le.refl _) hnn, ⟨_, rfl⟩, rfl⟩
theorem toIntSS_new {f : Adr} {zs : List (List Int)} {h : H2} (hs : szIntSS zs ≤ 1048576) : NewT Tryz.prog W0 78 [.sl f 1 (rIntSS zs)] h (.l 1 (rIntSS zs)) := by
  unfold szIntSS at hs
  have hE : ∀ a, (eIntS a).length = 1 := fun a => rfl
  refine start (P := Tryz.prog) [[0], [0], [0, 3], [0, 3, 4], [0, 3, 4], [0, 3, 4], [3]] (by kernel_rfl) Tryz.func78 rfl (by decide) (by decide +kernel) (rs := [.tmp 2]) rfl rfl (Nat.le_of_ble_eq_true rfl) ?_
  intro wf
  repeat (first | rw [kz_o] | rw [kz_r0] | simp -dsimp -implicitDefEqProofs only [go_sem, Nat.reduceBEq, Nat.reduceAdd, Nat.reduceLeDiff, Nat.reduceMul, Int.reduceLE, Int.reduceLT, Int.reduceBEq])
  refine make_intro Ai.ty_el25 Ai.ty_zr27 (by decide) ⟨by omega, by simp only [Int.toNat_natCast]; have : Ai.most = 1099511627776 := rfl; omega⟩ ?_
  repeat (first | rw [kz_o] | rw [kz_r0] | simp -dsimp -implicitDefEqProofs only [go_sem, Nat.reduceBEq, Nat.reduceAdd, Nat.reduceLeDiff, Nat.reduceMul, Int.reduceLE, Int.reduceLT, Int.reduceBEq])
  refine lz_keep [0, 3] (fun m e h' => ∃ (k : Nat) (cs : List X) (bs : List Nat), look e 4 .mk = .raw (.int .i64 k) ∧ m + k = zs.length ∧ hg h' (hn h .mk) .mk = some ⟨1, cs⟩ ∧ cs.length = zs.length * 1 ∧ OTs h' bs (cs.take (k * 1)) (((zs.take k).map eIntS).flatten) ∧ Bl (hn h .mk + 1) (hn h' .mk) bs ∧ h.le h' ∧ hn h .mk < hn h' .mk) zs.length ?_ ?_
  · exact ⟨0, _, [], by simp -dsimp -implicitDefEqProofs only [go_sem, Nat.reduceBEq, Nat.reduceAdd, Nat.reduceLeDiff, Nat.reduceMul, Int.reduceLE, Int.reduceLT, Int.reduceBEq], by omega, (by rw [hg_push, hoo]; rfl), by simp [rep_len], by simpa using OTs.nil, Bl.nil, le_push (H2.le.refl _), by rw [hn_push]; omega⟩
  · rintro m e h' hks ⟨k, cs, bs, e4, hk, hrow, hcs, ho, hbl, hle, hlt⟩
    simp -dsimp -implicitDefEqProofs only [go_sem, Nat.reduceBEq, Nat.reduceAdd, Nat.reduceLeDiff, Nat.reduceMul, Int.reduceLE, Int.reduceLT, Int.reduceBEq, Int.toNat_natCast] at hks
    by_cases h2 : (k : Int) < (zs.length : Int)
    · have h3 : k < zs.length := by omega
      have hsm : (zs.getD k default).length ≤ sumN szIntS zs := sumN_mem (f := szIntS) (getD_mem h3)
      repeat (first | rw [kz_o] | rw [kz_r0] | simp -dsimp -implicitDefEqProofs only [go_sem, Nat.reduceBEq, Nat.reduceAdd, Nat.reduceLeDiff, Nat.reduceMul, Int.reduceLE, Int.reduceLT, Int.reduceBEq, hks, e4, h2, h3])
      refine wz_intro (toIntS_new (by omega)) ?_
      rintro y g2 ⟨l2, b2, o1, bl2⟩
      have hy1 := OT.okx o1
      have o2 := OTs.one o1
      have nn2 := l2.1
      have hyl : ([y]).length = 1 := (OTs.len o2).trans (hE _)
      have hyo := OTs.okx o2
      obtain ⟨w1, w2, w3⟩ := wrt_next hcs h3 hyl
      have row2 := (l2.2 (hn h .mk) hlt).trans hrow
      have hi2 : (0 : Int) ≤ (k : Int) ∧ (k : Int) < (zs.length : Int) := by omega
      rw [Nat.mul_one] at w1
      repeat (first | rw [kz_o] | rw [kz_r0] | simp -dsimp -implicitDefEqProofs only [go_sem, Nat.reduceBEq, Nat.reduceAdd, Nat.reduceLeDiff, Nat.reduceMul, Int.reduceLE, Int.reduceLT, Int.reduceBEq, hks, e4, row2, hi2, hyl, hyo, w1, hy1, wrap_succ h3 (by omega)])
      have hset : ∀ {b : Nat} {kk : OB}, b ≠ hn h .mk → (g2.set (hn h .mk) kk).get b = g2.get b := fun hb => by simp only [H2.set]; rw [if_neg hb]
      refine nx_keep (m - 1) (by omega) (by simp -dsimp -implicitDefEqProofs only [go_sem, Nat.reduceBEq, Nat.reduceAdd, Nat.reduceLeDiff, Nat.reduceMul, Int.reduceLE, Int.reduceLT, Int.reduceBEq, hks]) ⟨k + 1, _, bs ++ b2, by simp -dsimp -implicitDefEqProofs only [go_sem, Nat.reduceBEq, Nat.reduceAdd, Nat.reduceLeDiff, Nat.reduceMul, Int.reduceLE, Int.reduceLT, Int.reduceBEq], by omega, (by rw [hg_set, hoo]; rfl), (by rw [← Nat.mul_one k]; exact w2), ?_, ?_, le_set (hle.trans l2) (Nat.le_refl _), by simp -dsimp -implicitDefEqProofs only [go_sem, Nat.reduceBEq, Nat.reduceAdd, Nat.reduceLeDiff, Nat.reduceMul, Int.reduceLE, Int.reduceLT, Int.reduceBEq] <;> omega⟩
      · rw [show cs.take k = cs.take (k * 1) by rw [Nat.mul_one], show cs.drop (k + 1) = cs.drop (k * 1 + 1) by rw [Nat.mul_one]]; rw [w3, flat_next h3]
        refine OTs.append ((OTs.keep ho l2 hbl).frame fun b hb => hset (by have := (hbl.2 b hb).1; omega)) (o2.frame fun b hb => hset (by have := (bl2.2 b hb).1; omega))
      · rw [hn_set]
        exact hbl.append bl2 (by omega) nn2
    · repeat (first | rw [kz_o] | rw [kz_r0] | simp -dsimp -implicitDefEqProofs only [go_sem, Nat.reduceBEq, Nat.reduceAdd, Nat.reduceLeDiff, Nat.reduceMul, Int.reduceLE, Int.reduceLT, Int.reduceBEq, hks, e4, h2])
      have : k = zs.length := by omega
      subst this
      obtain ⟨q1, q2⟩ := OT.full hE hrow hcs ho hbl hlt
      exact ⟨hle, _, q1, q2⟩
structure LMerge where
  a : Int
  b : Int
instance : Inhabited LMerge := ⟨⟨default, default⟩⟩
def eMerge (c : LMerge) : List T := [.v (.int .i64 c.a), .v (.int .i64 c.b)]
def xMerge (F : Nat → Adr) (c : LMerge) : List X := [.raw (.int .i64 c.a), .raw (.int .i64 c.b)]
theorem eMerge_def {c : LMerge} : eMerge c = [.v (.int .i64 c.a), .v (.int .i64 c.b)] := rfl
theorem xMerge_def {F : Nat → Adr} {c : LMerge} : xMerge F c = [.raw (.int .i64 c.a), .raw (.int .i64 c.b)] := rfl
def szMerge (c : LMerge) : Nat := 0
def fitMerge (c : LMerge) : Prop := True
attribute [go_sem] eMerge_def xMerge_def
theorem outMerge {g : H2} {c : LMerge} : OTs g [] [.raw (.int .i64 c.a), .raw (.int .i64 c.b)] (eMerge c) := by
  have := (OTs.cons (OT.raw (v := .int .i64 c.a) rfl) (OTs.cons (OT.raw (v := .int .i64 c.b) rfl) (OTs.nil)) : OTs g _ _ _)
  simpa only [eMerge, List.append_nil, List.nil_append] using this
theorem eqMerge_ok {F F' : Nat → Adr} {c : LMerge} {h : H2} (hf : fitMerge c) : PW Tryz.prog W0 171 [.st (xMerge F c), .st (xMerge F' c)] h (fun y => y = .raw (.bool true)) := by
  unfold fitMerge at hf
  refine PW.scalar ?_
  refine start (P := Tryz.prog) [[0, 1], [2, 3], [], [2, 3], [], []] (by kernel_rfl) Tryz.func171 rfl (by decide) (by decide +kernel) (rs := [.tmp 4]) rfl rfl (Nat.le_of_ble_eq_true rfl) ?_
  intro wf
  repeat (first | rw [kz_o] | rw [kz_r0] | simp -dsimp -implicitDefEqProofs only [go_sem, Nat.reduceBEq, Nat.reduceAdd, Nat.reduceLeDiff, Nat.reduceMul, Int.reduceLE, Int.reduceLT, Int.reduceBEq])
  exact ⟨by repeat (first | exact H2.le.refl _ | apply le_push | refine le_up ?_ (by assumption)), ⟨_, rfl⟩, rfl⟩
theorem toMerge_ok {F : Nat → Adr} {c : LMerge} {h : H2} (hs : szMerge c ≤ 1048576) : NewS Tryz.prog W0 169 [.st (xMerge F c)] h (eMerge c) := by
  refine start (P := Tryz.prog) [[0], [1, 2], [1, 2, 3], [1, 2, 3], [2, 3]] (by kernel_rfl) Tryz.func169 rfl (by decide) (by decide +kernel) (rs := [.cell 2 169]) rfl rfl (Nat.le_of_ble_eq_true rfl) ?_
  intro wf
  repeat (first | rw [kz_o] | rw [kz_r0] | simp -dsimp -implicitDefEqProofs only [go_sem, Nat.reduceBEq, Nat.reduceAdd, Nat.reduceLeDiff, Nat.reduceMul, Int.reduceLE, Int.reduceLT, Int.reduceBEq, hoo])
  exact ⟨by repeat (first | exact H2.le.refl _ | apply le_push | refine le_set ?_ (by first | omega | (simp only [hn_push, hn_set]; omega))), _, [], rfl, outMerge (c := c), Bl.nil⟩
def rMergeS (zs : List LMerge) : List (List T) := zs.map eMerge
theorem rMergeS_len {zs : List LMerge} : (rMergeS zs).length = zs.length := by simp [rMergeS]
theorem rMergeS_el {zs : List LMerge} {i : Nat} (hi : i < zs.length) : el (rMergeS zs) i = eMerge (zs.getD i default) := el_map hi
attribute [go_sem] rMergeS_len rMergeS_el
def szMergeS (zs : List LMerge) : Nat := zs.length + sumN szMerge zs
def fitMergeS (zs : List LMerge) : Prop := zs.length ≤ 9223372036854775807 ∧ ∀ x ∈ zs, fitMerge x
theorem szMergeS_pw {f : Adr} {zs : List LMerge} {left : Int} {h : H2} (hf : fitMergeS zs) (hl : 0 ≤ left ∧ left ≤ 1048576) : PW Tryz.prog W0 71 [.sl f 2 (rMergeS zs), .raw (.int .i64 left)] h (fun y => ∃ k : Int, y = .raw (.int .i64 k) ∧ (0 ≤ k → (szMergeS zs : Int) + k ≤ left)) := by
  obtain ⟨hf1, hf2⟩ := hf
  unfold szMergeS
  have hw : IntKind.i64.wrap (left - zs.length) = left - zs.length := by rw [wrap_i64] <;> omega
  refine PW.scalar ?_
  refine start (P := Tryz.prog) [[0, 1], [0, 1], [1], [], [1]] (by kernel_rfl) Tryz.func71 rfl (by decide) (by decide +kernel) (rs := [.tmp 4]) rfl rfl (Nat.le_of_ble_eq_true rfl) ?_
  intro wf
  repeat (first | rw [kz_o] | rw [kz_r0] | simp -dsimp -implicitDefEqProofs only [go_sem, Nat.reduceBEq, Nat.reduceAdd, Nat.reduceLeDiff, Nat.reduceMul, Int.reduceLE, Int.reduceLT, Int.reduceBEq, hw])
  refine gz_dec (fun h1 => ?_) (fun h1 => ?_)
  · repeat (first | rw [kz_o] | rw [kz_r0] | simp -dsimp -implicitDefEqProofs only [go_sem, Nat.reduceBEq, Nat.reduceAdd, Nat.reduceLeDiff, Nat.reduceMul, Int.reduceLE, Int.reduceLT, Int.reduceBEq])
    exact ⟨H2.le.refl _, ⟨_, rfl⟩, _, rfl, fun hh => by omega⟩
  · repeat (first | rw [kz_o] | rw [kz_r0] | simp -dsimp -implicitDefEqProofs only [go_sem, Nat.reduceBEq, Nat.reduceAdd, Nat.reduceLeDiff, Nat.reduceMul, Int.reduceLE, Int.reduceLT, Int.reduceBEq])
    have h0 : ∀ l : List LMerge, sumN szMerge l = 0 := fun l => by
      induction l with
      | nil => rfl
      | cons a l ih => simp only [sumN, szMerge, ih]
    exact ⟨H2.le.refl _, ⟨_, rfl⟩, _, rfl, fun hh => by rw [h0]; omega⟩
theorem eqMergeS_pw {f f' : Adr} {zs : List LMerge} {h : H2} (hf : fitMergeS zs) : PW Tryz.prog W0 82 [.sl f 2 (rMergeS zs), .sl f' 2 (rMergeS zs)] h (fun y => y = .raw (.bool true)) := by
  obtain ⟨hf1, hf2⟩ := hf
  refine PW.scalar ?_
  refine start (P := Tryz.prog) [[0, 1], [0, 1], [], [0, 1], [0, 1, 5], [0, 1, 5], [0, 1, 5], [], []] (by kernel_rfl) Tryz.func82 rfl (by decide) (by decide +kernel) (rs := [.tmp 4]) rfl rfl (Nat.le_of_ble_eq_true rfl) ?_
  intro wf
  repeat (first | rw [kz_o] | rw [kz_r0] | simp -dsimp -implicitDefEqProofs only [go_sem, Nat.reduceBEq, Nat.reduceAdd, Nat.reduceLeDiff, Nat.reduceMul, Int.reduceLE, Int.reduceLT, Int.reduceBEq])
  refine lz_keep [0, 1] (fun m e h' => ∃ (k n : Nat), h' = h.up n ∧ hn h .mk ≤ n ∧ look e 5 .mk = .raw (.int .i64 k) ∧ m + k = zs.length) zs.length ?_ ?_
  · exact ⟨0, hn h .mk, up_self, Nat.le_refl _, by simp -dsimp -implicitDefEqProofs only [go_sem, Nat.reduceBEq, Nat.reduceAdd, Nat.reduceLeDiff, Nat.reduceMul, Int.reduceLE, Int.reduceLT, Int.reduceBEq], by omega⟩
  · rintro m e h' hks ⟨k, n, rfl, hnn, e5, hk⟩
    simp -dsimp -implicitDefEqProofs only [go_sem, Nat.reduceBEq, Nat.reduceAdd, Nat.reduceLeDiff, Nat.reduceMul, Int.reduceLE, Int.reduceLT, Int.reduceBEq] at hks
    by_cases h2 : (k : Int) < (zs.length : Int)
    · have h3 : k < zs.length := by omega
      repeat (first | rw [kz_o] | rw [kz_r0] | simp -dsimp -implicitDefEqProofs only [go_sem, Nat.reduceBEq, Nat.reduceAdd, Nat.reduceLeDiff, Nat.reduceMul, Int.reduceLE, Int.reduceLT, Int.reduceBEq, hks, e5, h2])
      refine dq_intro [(0, []), (1, []), (2, []), (3, []), (4, []), (5, []), (6, []), (7, []), (8, []), (9, [])] (by kernel_rfl) ?_
      repeat (first | rw [kz_o] | rw [kz_r0] | simp -dsimp -implicitDefEqProofs only [go_sem, Nat.reduceBEq, Nat.reduceAdd, Nat.reduceLeDiff, Nat.reduceMul, Int.reduceLE, Int.reduceLT, Int.reduceBEq, hks, e5, h3])
      refine pw_intro (eqMerge_ok (F := under (under f k)) (F' := under (under f' k)) (c := zs.getD k default) (hf2 _ (getD_mem h3))) ?_
      rintro _ n2 hn2 rfl
      simp only [hn_up] at hn2
      repeat (first | rw [kz_o] | rw [kz_r0] | simp -dsimp -implicitDefEqProofs only [go_sem, Nat.reduceBEq, Nat.reduceAdd, Nat.reduceLeDiff, Nat.reduceMul, Int.reduceLE, Int.reduceLT, Int.reduceBEq, hks, e5, wrap_succ h3 hf1])
      exact nx_keep (m - 1) (by omega) (by simp -dsimp -implicitDefEqProofs only [go_sem, Nat.reduceBEq, Nat.reduceAdd, Nat.reduceLeDiff, Nat.reduceMul, Int.reduceLE, Int.reduceLT, Int.reduceBEq, hks]) ⟨k + 1, n2, up_up, by omega, by simp -dsimp -implicitDefEqProofs only [go_sem, Nat.reduceBEq, Nat.reduceAdd, Nat.reduceLeDiff, Nat.reduceMul, Int.reduceLE, Int.reduceLT, Int.reduceBEq], by omega⟩
    · repeat (first | rw [kz_o] | rw [kz_r0] | simp -dsimp -implicitDefEqProofs only [go_sem, Nat.reduceBEq, Nat.reduceAdd, Nat.reduceLeDiff, Nat.reduceMul, Int.reduceLE, Int.reduceLT, Int.reduceBEq, hks, e5, h2])
      exact ⟨le_up (H2.le.refl _) hnn, ⟨_, rfl⟩, rfl⟩
theorem toMergeS_new {f : Adr} {zs : List LMerge} {h : H2} (hs : szMergeS zs ≤ 1048576) : NewT Tryz.prog W0 77 [.sl f 2 (rMergeS zs)] h (.l 2 (rMergeS zs)) := by
  unfold szMergeS at hs
  have hE : ∀ a, (eMerge a).length = 2 := fun a => rfl
  refine start (P := Tryz.prog) [[0], [0], [0, 3], [0, 3, 4], [0, 3, 4], [0, 3, 4], [3]] (by kernel_rfl) Tryz.func77 rfl (by decide) (by decide +kernel) (rs := [.tmp 2]) rfl rfl (Nat.le_of_ble_eq_true rfl) ?_
  intro wf
  repeat (first | rw [kz_o] | rw [kz_r0] | simp -dsimp -implicitDefEqProofs only [go_sem, Nat.reduceBEq, Nat.reduceAdd, Nat.reduceLeDiff, Nat.reduceMul, Int.reduceLE, Int.reduceLT, Int.reduceBEq])
  refine make_intro Ai.ty_el24 Ai.ty_zr169 (by decide) ⟨by omega, by simp only [Int.toNat_natCast]; have : Ai.most = 1099511627776 := rfl; omega⟩ ?_
  repeat (first | rw [kz_o] | rw [kz_r0] | simp -dsimp -implicitDefEqProofs only [go_sem, Nat.reduceBEq, Nat.reduceAdd, Nat.reduceLeDiff, Nat.reduceMul, Int.reduceLE, Int.reduceLT, Int.reduceBEq])
  refine lz_keep [0, 3] (fun m e h' => ∃ (k : Nat) (cs : List X) (bs : List Nat), look e 4 .mk = .raw (.int .i64 k) ∧ m + k = zs.length ∧ hg h' (hn h .mk) .mk = some ⟨2, cs⟩ ∧ cs.length = zs.length * 2 ∧ OTs h' bs (cs.take (k * 2)) (((zs.take k).map eMerge).flatten) ∧ Bl (hn h .mk + 1) (hn h' .mk) bs ∧ h.le h' ∧ hn h .mk < hn h' .mk) zs.length ?_ ?_
  · exact ⟨0, _, [], by simp -dsimp -implicitDefEqProofs only [go_sem, Nat.reduceBEq, Nat.reduceAdd, Nat.reduceLeDiff, Nat.reduceMul, Int.reduceLE, Int.reduceLT, Int.reduceBEq], by omega, (by rw [hg_push, hoo]; rfl), by simp [rep_len], by simpa using OTs.nil, Bl.nil, le_push (H2.le.refl _), by rw [hn_push]; omega⟩
  · rintro m e h' hks ⟨k, cs, bs, e4, hk, hrow, hcs, ho, hbl, hle, hlt⟩
    simp -dsimp -implicitDefEqProofs only [go_sem, Nat.reduceBEq, Nat.reduceAdd, Nat.reduceLeDiff, Nat.reduceMul, Int.reduceLE, Int.reduceLT, Int.reduceBEq, Int.toNat_natCast] at hks
    by_cases h2 : (k : Int) < (zs.length : Int)
    · have h3 : k < zs.length := by omega
      have hsm : szMerge (zs.getD k default) ≤ sumN szMerge zs := sumN_mem (f := szMerge) (getD_mem h3)
      repeat (first | rw [kz_o] | rw [kz_r0] | simp -dsimp -implicitDefEqProofs only [go_sem, Nat.reduceBEq, Nat.reduceAdd, Nat.reduceLeDiff, Nat.reduceMul, Int.reduceLE, Int.reduceLT, Int.reduceBEq, hks, e4, h2, h3])
      refine wz_intro (toMerge_ok (F := under (under f k)) (c := zs.getD k default) (by omega)) ?_
      rintro _ g2 ⟨l2, ys, b2, rfl, o2, bl2⟩
      have nn2 := l2.1
      have hyl : (ys).length = 2 := (OTs.len o2).trans (hE _)
      have hyo := OTs.okx o2
      obtain ⟨w1, w2, w3⟩ := wrt_next hcs h3 hyl
      have row2 := (l2.2 (hn h .mk) hlt).trans hrow
      have hi2 : (0 : Int) ≤ (k : Int) ∧ (k : Int) < (zs.length : Int) := by omega
      repeat (first | rw [kz_o] | rw [kz_r0] | simp -dsimp -implicitDefEqProofs only [go_sem, Nat.reduceBEq, Nat.reduceAdd, Nat.reduceLeDiff, Nat.reduceMul, Int.reduceLE, Int.reduceLT, Int.reduceBEq, hks, e4, row2, hi2, hyl, hyo, w1, wrap_succ h3 (by omega)])
      have hset : ∀ {b : Nat} {kk : OB}, b ≠ hn h .mk → (g2.set (hn h .mk) kk).get b = g2.get b := fun hb => by simp only [H2.set]; rw [if_neg hb]
      refine nx_keep (m - 1) (by omega) (by simp -dsimp -implicitDefEqProofs only [go_sem, Nat.reduceBEq, Nat.reduceAdd, Nat.reduceLeDiff, Nat.reduceMul, Int.reduceLE, Int.reduceLT, Int.reduceBEq, hks]) ⟨k + 1, _, bs ++ b2, by simp -dsimp -implicitDefEqProofs only [go_sem, Nat.reduceBEq, Nat.reduceAdd, Nat.reduceLeDiff, Nat.reduceMul, Int.reduceLE, Int.reduceLT, Int.reduceBEq], by omega, (by rw [hg_set, hoo]; rfl), w2, ?_, ?_, le_set (hle.trans l2) (Nat.le_refl _), by simp -dsimp -implicitDefEqProofs only [go_sem, Nat.reduceBEq, Nat.reduceAdd, Nat.reduceLeDiff, Nat.reduceMul, Int.reduceLE, Int.reduceLT, Int.reduceBEq] <;> omega⟩
      · rw [w3, flat_next h3]
        refine OTs.append ((OTs.keep ho l2 hbl).frame fun b hb => hset (by have := (hbl.2 b hb).1; omega)) (o2.frame fun b hb => hset (by have := (bl2.2 b hb).1; omega))
      · rw [hn_set]
        exact hbl.append bl2 (by omega) nn2
    · repeat (first | rw [kz_o] | rw [kz_r0] | simp -dsimp -implicitDefEqProofs only [go_sem, Nat.reduceBEq, Nat.reduceAdd, Nat.reduceLeDiff, Nat.reduceMul, Int.reduceLE, Int.reduceLT, Int.reduceBEq, hks, e4, h2])
      have : k = zs.length := by omega
      subst this
      obtain ⟨q1, q2⟩ := OT.full hE hrow hcs ho hbl hlt
      exact ⟨hle, _, q1, q2⟩
structure LMatrix where
  width : Int
  rows : List (List Int)
  scales : List (List Int)
  mul : Int
  shift : Int
instance : Inhabited LMatrix := ⟨⟨default, default, default, default, default⟩⟩
def eMatrix (c : LMatrix) : List T := [.v (.int .i64 c.width), .l 1 (rIntSS c.rows), .l 1 (rIntSS c.scales), .v (.int .i64 c.mul), .v (.int .i64 c.shift)]
def xMatrix (F : Nat → Adr) (c : LMatrix) : List X := [.raw (.int .i64 c.width), .sl (F 1) 1 (rIntSS c.rows), .sl (F 2) 1 (rIntSS c.scales), .raw (.int .i64 c.mul), .raw (.int .i64 c.shift)]
theorem eMatrix_def {c : LMatrix} : eMatrix c = [.v (.int .i64 c.width), .l 1 (rIntSS c.rows), .l 1 (rIntSS c.scales), .v (.int .i64 c.mul), .v (.int .i64 c.shift)] := rfl
theorem xMatrix_def {F : Nat → Adr} {c : LMatrix} : xMatrix F c = [.raw (.int .i64 c.width), .sl (F 1) 1 (rIntSS c.rows), .sl (F 2) 1 (rIntSS c.scales), .raw (.int .i64 c.mul), .raw (.int .i64 c.shift)] := rfl
def szMatrix (c : LMatrix) : Nat := szIntSS c.rows + szIntSS c.scales
def fitMatrix (c : LMatrix) : Prop := fitIntSS c.rows ∧ fitIntSS c.scales
attribute [go_sem] eMatrix_def xMatrix_def
theorem invMatrix {g : H2} {bs : List Nat} {ys : List X} {c : LMatrix} (o : OTs g bs ys (eMatrix c)) : ∃ b1 s1 b2 s2, ys = [.raw (.int .i64 c.width), s1, s2, .raw (.int .i64 c.mul), .raw (.int .i64 c.shift)] ∧ bs = b1 ++ b2 ∧ OT g b1 s1 (.l 1 (rIntSS c.rows)) ∧ OT g b2 s2 (.l 1 (rIntSS c.scales)) := by
  unfold eMatrix at o
  obtain ⟨ys0, rfl, o0⟩ := OTs.headv o
  obtain ⟨b1, bs1, s1, ys1, rfl, rfl, a1, o1⟩ := OTs.head o0
  obtain ⟨b2, bs2, s2, ys2, rfl, rfl, a2, o2⟩ := OTs.head o1
  obtain ⟨ys3, rfl, o3⟩ := OTs.headv o2
  obtain ⟨ys4, rfl, o4⟩ := OTs.headv o3
  obtain ⟨rfl, rfl⟩ := OTs.tail0 o4
  exact ⟨_, _, _, _, rfl, by simp only [List.append_nil], a1, a2⟩
theorem outMatrix {g : H2} {c : LMatrix} {b1 b2 : List Nat} {s1 s2 : X} (a1 : OT g b1 s1 (.l 1 (rIntSS c.rows))) (a2 : OT g b2 s2 (.l 1 (rIntSS c.scales))) : OTs g (b1 ++ b2) [.raw (.int .i64 c.width), s1, s2, .raw (.int .i64 c.mul), .raw (.int .i64 c.shift)] (eMatrix c) := by
  have := OTs.cons (OT.raw (v := .int .i64 c.width) rfl) (OTs.cons a1 (OTs.cons a2 (OTs.cons (OT.raw (v := .int .i64 c.mul) rfl) (OTs.cons (OT.raw (v := .int .i64 c.shift) rfl) (OTs.nil)))))
  simpa only [eMatrix, List.append_nil, List.nil_append] using this
theorem szMatrix_ok {F : Nat → Adr} {c : LMatrix} {left : Int} {h : H2} (hf : fitMatrix c) (hl : 0 ≤ left ∧ left ≤ 1048576) : PW Tryz.prog W0 75 [.st (xMatrix F c), .raw (.int .i64 left)] h (fun y => ∃ k : Int, y = .raw (.int .i64 k) ∧ (0 ≤ k → (szMatrix c : Int) + k ≤ left)) := by
  unfold fitMatrix at hf
  refine PW.scalar ?_
  refine start (P := Tryz.prog) [[0, 1], [1, 2], [1, 2], [], [1, 2], [1], [], [1]] (by kernel_rfl) Tryz.func75 rfl (by decide) (by decide +kernel) (rs := [.tmp 4]) rfl rfl (Nat.le_of_ble_eq_true rfl) ?_
  intro wf
  repeat (first | rw [kz_o] | rw [kz_r0] | simp -dsimp -implicitDefEqProofs only [go_sem, Nat.reduceBEq, Nat.reduceAdd, Nat.reduceLeDiff, Nat.reduceMul, Int.reduceLE, Int.reduceLT, Int.reduceBEq])
  refine pw_intro (szIntSS_pw  hf.1 ⟨by omega, by omega⟩) ?_
  rintro _ n1 hn1 ⟨k1, rfl, hk1⟩
  repeat (first | rw [kz_o] | rw [kz_r0] | simp -dsimp -implicitDefEqProofs only [go_sem, Nat.reduceBEq, Nat.reduceAdd, Nat.reduceLeDiff, Nat.reduceMul, Int.reduceLE, Int.reduceLT, Int.reduceBEq])
  refine gz_dec (fun q1 => ?_) (fun q1 => ?_)
  · repeat (first | rw [kz_o] | rw [kz_r0] | simp -dsimp -implicitDefEqProofs only [go_sem, Nat.reduceBEq, Nat.reduceAdd, Nat.reduceLeDiff, Nat.reduceMul, Int.reduceLE, Int.reduceLT, Int.reduceBEq])
    exact ⟨by repeat (first | exact H2.le.refl _ | apply le_push | refine le_up ?_ (by assumption)), ⟨_, rfl⟩, _, rfl, fun hh => by omega⟩
  repeat (first | rw [kz_o] | rw [kz_r0] | simp -dsimp -implicitDefEqProofs only [go_sem, Nat.reduceBEq, Nat.reduceAdd, Nat.reduceLeDiff, Nat.reduceMul, Int.reduceLE, Int.reduceLT, Int.reduceBEq])
  refine pw_intro (szIntSS_pw  hf.2 ⟨by omega, by omega⟩) ?_
  rintro _ n2 hn2 ⟨k2, rfl, hk2⟩
  repeat (first | rw [kz_o] | rw [kz_r0] | simp -dsimp -implicitDefEqProofs only [go_sem, Nat.reduceBEq, Nat.reduceAdd, Nat.reduceLeDiff, Nat.reduceMul, Int.reduceLE, Int.reduceLT, Int.reduceBEq])
  refine gz_dec (fun q2 => ?_) (fun q2 => ?_)
  · repeat (first | rw [kz_o] | rw [kz_r0] | simp -dsimp -implicitDefEqProofs only [go_sem, Nat.reduceBEq, Nat.reduceAdd, Nat.reduceLeDiff, Nat.reduceMul, Int.reduceLE, Int.reduceLT, Int.reduceBEq])
    exact ⟨by repeat (first | exact H2.le.refl _ | apply le_push | refine le_up ?_ (by assumption)), ⟨_, rfl⟩, _, rfl, fun hh => by omega⟩
  repeat (first | rw [kz_o] | rw [kz_r0] | simp -dsimp -implicitDefEqProofs only [go_sem, Nat.reduceBEq, Nat.reduceAdd, Nat.reduceLeDiff, Nat.reduceMul, Int.reduceLE, Int.reduceLT, Int.reduceBEq])
  exact ⟨by repeat (first | exact H2.le.refl _ | apply le_push | refine le_up ?_ (by assumption)), ⟨_, rfl⟩, _, rfl, fun hh => by unfold szMatrix; omega⟩
theorem eqMatrix_ok {F F' : Nat → Adr} {c : LMatrix} {h : H2} (hf : fitMatrix c) : PW Tryz.prog W0 85 [.st (xMatrix F c), .st (xMatrix F' c)] h (fun y => y = .raw (.bool true)) := by
  unfold fitMatrix at hf
  refine PW.scalar ?_
  refine start (P := Tryz.prog) [[0, 1], [2, 3], [], [2, 3], [], [2, 3], [], [2, 3], [], [2, 3], [], []] (by kernel_rfl) Tryz.func85 rfl (by decide) (by decide +kernel) (rs := [.tmp 4]) rfl rfl (Nat.le_of_ble_eq_true rfl) ?_
  intro wf
  repeat (first | rw [kz_o] | rw [kz_r0] | simp -dsimp -implicitDefEqProofs only [go_sem, Nat.reduceBEq, Nat.reduceAdd, Nat.reduceLeDiff, Nat.reduceMul, Int.reduceLE, Int.reduceLT, Int.reduceBEq])
  refine pw_intro (eqIntSS_pw  hf.1) ?_
  rintro _ n1 hn1 rfl
  repeat (first | rw [kz_o] | rw [kz_r0] | simp -dsimp -implicitDefEqProofs only [go_sem, Nat.reduceBEq, Nat.reduceAdd, Nat.reduceLeDiff, Nat.reduceMul, Int.reduceLE, Int.reduceLT, Int.reduceBEq])
  refine pw_intro (eqIntSS_pw  hf.2) ?_
  rintro _ n2 hn2 rfl
  repeat (first | rw [kz_o] | rw [kz_r0] | simp -dsimp -implicitDefEqProofs only [go_sem, Nat.reduceBEq, Nat.reduceAdd, Nat.reduceLeDiff, Nat.reduceMul, Int.reduceLE, Int.reduceLT, Int.reduceBEq])
  exact ⟨by repeat (first | exact H2.le.refl _ | apply le_push | refine le_up ?_ (by assumption)), ⟨_, rfl⟩, rfl⟩
theorem toMatrix_ok {F : Nat → Adr} {c : LMatrix} {h : H2} (hs : szMatrix c ≤ 1048576) : NewS Tryz.prog W0 80 [.st (xMatrix F c)] h (eMatrix c) := by
  unfold szMatrix at hs
  refine start (P := Tryz.prog) [[0], [1, 2], [1, 2, 3], [1, 2, 3], [1, 2, 3], [1, 2, 3], [1, 2, 3], [2, 3]] (by kernel_rfl) Tryz.func80 rfl (by decide) (by decide +kernel) (rs := [.cell 2 29]) rfl rfl (Nat.le_of_ble_eq_true rfl) ?_
  intro wf
  repeat (first | rw [kz_o] | rw [kz_r0] | simp -dsimp -implicitDefEqProofs only [go_sem, Nat.reduceBEq, Nat.reduceAdd, Nat.reduceLeDiff, Nat.reduceMul, Int.reduceLE, Int.reduceLT, Int.reduceBEq])
  refine wz_intro (toIntSS_new  (by omega)) ?_
  rintro s1 g1 ⟨l1, b1, o1, bl1⟩
  have ce1 := OT.cell o1
  have n1 := l1.n
  have a10 := l1.2 (hn h .mk) (by simp only [hn_push, hn_set]; omega)
  have a11 := l1.2 (hn h .mk + 1) (by simp only [hn_push, hn_set]; omega)
  have a12 := l1.2 (hn h .mk + 1 + 1) (by simp only [hn_push, hn_set]; omega)
  simp -dsimp -implicitDefEqProofs only [go_sem, Nat.reduceBEq, Nat.reduceAdd, Nat.reduceLeDiff, Nat.reduceMul, Int.reduceLE, Int.reduceLT, Int.reduceBEq, hoo] at n1 a10 a11 a12
  have L1 : h.le g1 := H2.le.trans (by repeat (first | exact H2.le.refl _ | apply le_push | refine le_set ?_ (by omega))) l1
  repeat (first | rw [kz_o] | rw [kz_r0] | simp -dsimp -implicitDefEqProofs only [go_sem, Nat.reduceBEq, Nat.reduceAdd, Nat.reduceLeDiff, Nat.reduceMul, Int.reduceLE, Int.reduceLT, Int.reduceBEq, a10, a11, a12, ce1])
  refine wz_intro (toIntSS_new  (by omega)) ?_
  rintro s2 g2 ⟨l2, b2, o2, bl2⟩
  have ce2 := OT.cell o2
  have n2 := l2.n
  have a20 := l2.2 (hn h .mk) (by simp only [hn_push, hn_set]; omega)
  have a21 := l2.2 (hn h .mk + 1) (by simp only [hn_push, hn_set]; omega)
  have a22 := l2.2 (hn h .mk + 1 + 1) (by simp only [hn_push, hn_set]; omega)
  simp -dsimp -implicitDefEqProofs only [go_sem, Nat.reduceBEq, Nat.reduceAdd, Nat.reduceLeDiff, Nat.reduceMul, Int.reduceLE, Int.reduceLT, Int.reduceBEq, a10, a11, a12, hoo] at n2 a20 a21 a22
  have L2 : h.le g2 := H2.le.trans (by repeat (first | exact L1 | exact H2.le.refl _ | apply le_push | refine le_set ?_ (by omega))) l2
  repeat (first | rw [kz_o] | rw [kz_r0] | simp -dsimp -implicitDefEqProofs only [go_sem, Nat.reduceBEq, Nat.reduceAdd, Nat.reduceLeDiff, Nat.reduceMul, Int.reduceLE, Int.reduceLT, Int.reduceBEq, a20, a21, a22, ce1, ce2])
  refine ⟨by repeat (first | exact L2 | refine le_set ?_ (by omega)), _, b1 ++ b2, rfl, outMatrix (c := c) ?_ ?_, ?_⟩
  · refine OT.frame o1 fun b hb => ?_
    have hbl := bl1.2 b (hb)
    simp only [hn_push, hn_set] at hbl
    simp only [H2.set]
    rw [if_neg (by omega), if_neg (by omega)]
    rw [show g2.get b = _ from l2.2 b (by simp only [hn_set]; omega)]
    simp only [hg, H2.set]
    rw [if_neg (by omega)]
  · refine OT.frame o2 fun b hb => ?_
    have hbl := bl2.2 b (hb)
    simp only [hn_push, hn_set] at hbl
    simp only [H2.set]
    rw [if_neg (by omega), if_neg (by omega)]
  · simp only [hn_set]
    have m1 := bl1
    simp only [hn_push, hn_set] at m1
    have m2 := bl2
    simp only [hn_push, hn_set] at m2
    have := ((Bl.append m1 m2 (by omega) (by omega))).wide (N' := hn h .mk) (by omega) (Nat.le_refl _)
    simpa only [List.append_assoc] using this
structure LTurns where
  cos : List (List Int)
  sin : List (List Int)
instance : Inhabited LTurns := ⟨⟨default, default⟩⟩
def eTurns (c : LTurns) : List T := [.l 1 (rIntSS c.cos), .l 1 (rIntSS c.sin)]
def xTurns (F : Nat → Adr) (c : LTurns) : List X := [.sl (F 0) 1 (rIntSS c.cos), .sl (F 1) 1 (rIntSS c.sin)]
theorem xTurns_def {F : Nat → Adr} {c : LTurns} : xTurns F c = [.sl (F 0) 1 (rIntSS c.cos), .sl (F 1) 1 (rIntSS c.sin)] := rfl
def szTurns (c : LTurns) : Nat := szIntSS c.cos + szIntSS c.sin
def fitTurns (c : LTurns) : Prop := fitIntSS c.cos ∧ fitIntSS c.sin
attribute [go_sem] xTurns_def
theorem invTurns {g : H2} {bs : List Nat} {ys : List X} {c : LTurns} (o : OTs g bs ys (eTurns c)) : ∃ b0 s0 b1 s1, ys = [s0, s1] ∧ bs = b0 ++ b1 ∧ OT g b0 s0 (.l 1 (rIntSS c.cos)) ∧ OT g b1 s1 (.l 1 (rIntSS c.sin)) := by
  unfold eTurns at o
  obtain ⟨b0, bs0, s0, ys0, rfl, rfl, a0, o0⟩ := OTs.head o
  obtain ⟨b1, bs1, s1, ys1, rfl, rfl, a1, o1⟩ := OTs.head o0
  obtain ⟨rfl, rfl⟩ := OTs.tail0 o1
  exact ⟨_, _, _, _, rfl, by simp only [List.append_nil], a0, a1⟩
theorem outTurns {g : H2} {c : LTurns} {b0 b1 : List Nat} {s0 s1 : X} (a0 : OT g b0 s0 (.l 1 (rIntSS c.cos))) (a1 : OT g b1 s1 (.l 1 (rIntSS c.sin))) : OTs g (b0 ++ b1) [s0, s1] (eTurns c) := by
  have := OTs.cons a0 (OTs.cons a1 (OTs.nil))
  simpa only [eTurns, List.append_nil, List.nil_append] using this
theorem szTurns_ok {F : Nat → Adr} {c : LTurns} {left : Int} {h : H2} (hf : fitTurns c) (hl : 0 ≤ left ∧ left ≤ 1048576) : PW Tryz.prog W0 76 [.st (xTurns F c), .raw (.int .i64 left)] h (fun y => ∃ k : Int, y = .raw (.int .i64 k) ∧ (0 ≤ k → (szTurns c : Int) + k ≤ left)) := by
  unfold fitTurns at hf
  refine PW.scalar ?_
  refine start (P := Tryz.prog) [[0, 1], [1, 2], [1, 2], [], [1, 2], [1], [], [1]] (by kernel_rfl) Tryz.func76 rfl (by decide) (by decide +kernel) (rs := [.tmp 4]) rfl rfl (Nat.le_of_ble_eq_true rfl) ?_
  intro wf
  repeat (first | rw [kz_o] | rw [kz_r0] | simp -dsimp -implicitDefEqProofs only [go_sem, Nat.reduceBEq, Nat.reduceAdd, Nat.reduceLeDiff, Nat.reduceMul, Int.reduceLE, Int.reduceLT, Int.reduceBEq])
  refine pw_intro (szIntSS_pw  hf.1 ⟨by omega, by omega⟩) ?_
  rintro _ n0 hn0 ⟨k0, rfl, hk0⟩
  repeat (first | rw [kz_o] | rw [kz_r0] | simp -dsimp -implicitDefEqProofs only [go_sem, Nat.reduceBEq, Nat.reduceAdd, Nat.reduceLeDiff, Nat.reduceMul, Int.reduceLE, Int.reduceLT, Int.reduceBEq])
  refine gz_dec (fun q0 => ?_) (fun q0 => ?_)
  · repeat (first | rw [kz_o] | rw [kz_r0] | simp -dsimp -implicitDefEqProofs only [go_sem, Nat.reduceBEq, Nat.reduceAdd, Nat.reduceLeDiff, Nat.reduceMul, Int.reduceLE, Int.reduceLT, Int.reduceBEq])
    exact ⟨by repeat (first | exact H2.le.refl _ | apply le_push | refine le_up ?_ (by assumption)), ⟨_, rfl⟩, _, rfl, fun hh => by omega⟩
  repeat (first | rw [kz_o] | rw [kz_r0] | simp -dsimp -implicitDefEqProofs only [go_sem, Nat.reduceBEq, Nat.reduceAdd, Nat.reduceLeDiff, Nat.reduceMul, Int.reduceLE, Int.reduceLT, Int.reduceBEq])
  refine pw_intro (szIntSS_pw  hf.2 ⟨by omega, by omega⟩) ?_
  rintro _ n1 hn1 ⟨k1, rfl, hk1⟩
  repeat (first | rw [kz_o] | rw [kz_r0] | simp -dsimp -implicitDefEqProofs only [go_sem, Nat.reduceBEq, Nat.reduceAdd, Nat.reduceLeDiff, Nat.reduceMul, Int.reduceLE, Int.reduceLT, Int.reduceBEq])
  refine gz_dec (fun q1 => ?_) (fun q1 => ?_)
  · repeat (first | rw [kz_o] | rw [kz_r0] | simp -dsimp -implicitDefEqProofs only [go_sem, Nat.reduceBEq, Nat.reduceAdd, Nat.reduceLeDiff, Nat.reduceMul, Int.reduceLE, Int.reduceLT, Int.reduceBEq])
    exact ⟨by repeat (first | exact H2.le.refl _ | apply le_push | refine le_up ?_ (by assumption)), ⟨_, rfl⟩, _, rfl, fun hh => by omega⟩
  repeat (first | rw [kz_o] | rw [kz_r0] | simp -dsimp -implicitDefEqProofs only [go_sem, Nat.reduceBEq, Nat.reduceAdd, Nat.reduceLeDiff, Nat.reduceMul, Int.reduceLE, Int.reduceLT, Int.reduceBEq])
  exact ⟨by repeat (first | exact H2.le.refl _ | apply le_push | refine le_up ?_ (by assumption)), ⟨_, rfl⟩, _, rfl, fun hh => by unfold szTurns; omega⟩
theorem eqTurns_ok {F F' : Nat → Adr} {c : LTurns} {h : H2} (hf : fitTurns c) : PW Tryz.prog W0 86 [.st (xTurns F c), .st (xTurns F' c)] h (fun y => y = .raw (.bool true)) := by
  unfold fitTurns at hf
  refine PW.scalar ?_
  refine start (P := Tryz.prog) [[0, 1], [2, 3], [], [2, 3], [], []] (by kernel_rfl) Tryz.func86 rfl (by decide) (by decide +kernel) (rs := [.tmp 4]) rfl rfl (Nat.le_of_ble_eq_true rfl) ?_
  intro wf
  repeat (first | rw [kz_o] | rw [kz_r0] | simp -dsimp -implicitDefEqProofs only [go_sem, Nat.reduceBEq, Nat.reduceAdd, Nat.reduceLeDiff, Nat.reduceMul, Int.reduceLE, Int.reduceLT, Int.reduceBEq])
  refine pw_intro (eqIntSS_pw  hf.1) ?_
  rintro _ n0 hn0 rfl
  repeat (first | rw [kz_o] | rw [kz_r0] | simp -dsimp -implicitDefEqProofs only [go_sem, Nat.reduceBEq, Nat.reduceAdd, Nat.reduceLeDiff, Nat.reduceMul, Int.reduceLE, Int.reduceLT, Int.reduceBEq])
  refine pw_intro (eqIntSS_pw  hf.2) ?_
  rintro _ n1 hn1 rfl
  repeat (first | rw [kz_o] | rw [kz_r0] | simp -dsimp -implicitDefEqProofs only [go_sem, Nat.reduceBEq, Nat.reduceAdd, Nat.reduceLeDiff, Nat.reduceMul, Int.reduceLE, Int.reduceLT, Int.reduceBEq])
  exact ⟨by repeat (first | exact H2.le.refl _ | apply le_push | refine le_up ?_ (by assumption)), ⟨_, rfl⟩, rfl⟩
theorem toTurns_ok {F : Nat → Adr} {c : LTurns} {h : H2} (hs : szTurns c ≤ 1048576) : NewS Tryz.prog W0 81 [.st (xTurns F c)] h (eTurns c) := by
  unfold szTurns at hs
  refine start (P := Tryz.prog) [[0], [1, 2], [1, 2, 3], [1, 2, 3], [2, 3]] (by kernel_rfl) Tryz.func81 rfl (by decide) (by decide +kernel) (rs := [.cell 2 31]) rfl rfl (Nat.le_of_ble_eq_true rfl) ?_
  intro wf
  repeat (first | rw [kz_o] | rw [kz_r0] | simp -dsimp -implicitDefEqProofs only [go_sem, Nat.reduceBEq, Nat.reduceAdd, Nat.reduceLeDiff, Nat.reduceMul, Int.reduceLE, Int.reduceLT, Int.reduceBEq])
  refine wz_intro (toIntSS_new  (by omega)) ?_
  rintro s0 g0 ⟨l0, b0, o0, bl0⟩
  have ce0 := OT.cell o0
  have n0 := l0.n
  have a00 := l0.2 (hn h .mk) (by simp only [hn_push, hn_set]; omega)
  have a01 := l0.2 (hn h .mk + 1) (by simp only [hn_push, hn_set]; omega)
  have a02 := l0.2 (hn h .mk + 1 + 1) (by simp only [hn_push, hn_set]; omega)
  simp -dsimp -implicitDefEqProofs only [go_sem, Nat.reduceBEq, Nat.reduceAdd, Nat.reduceLeDiff, Nat.reduceMul, Int.reduceLE, Int.reduceLT, Int.reduceBEq, hoo] at n0 a00 a01 a02
  have L0 : h.le g0 := H2.le.trans (by repeat (first | exact H2.le.refl _ | apply le_push | refine le_set ?_ (by omega))) l0
  repeat (first | rw [kz_o] | rw [kz_r0] | simp -dsimp -implicitDefEqProofs only [go_sem, Nat.reduceBEq, Nat.reduceAdd, Nat.reduceLeDiff, Nat.reduceMul, Int.reduceLE, Int.reduceLT, Int.reduceBEq, a00, a01, a02, ce0])
  refine wz_intro (toIntSS_new  (by omega)) ?_
  rintro s1 g1 ⟨l1, b1, o1, bl1⟩
  have ce1 := OT.cell o1
  have n1 := l1.n
  have a10 := l1.2 (hn h .mk) (by simp only [hn_push, hn_set]; omega)
  have a11 := l1.2 (hn h .mk + 1) (by simp only [hn_push, hn_set]; omega)
  have a12 := l1.2 (hn h .mk + 1 + 1) (by simp only [hn_push, hn_set]; omega)
  simp -dsimp -implicitDefEqProofs only [go_sem, Nat.reduceBEq, Nat.reduceAdd, Nat.reduceLeDiff, Nat.reduceMul, Int.reduceLE, Int.reduceLT, Int.reduceBEq, a00, a01, a02, hoo] at n1 a10 a11 a12
  have L1 : h.le g1 := H2.le.trans (by repeat (first | exact L0 | exact H2.le.refl _ | apply le_push | refine le_set ?_ (by omega))) l1
  repeat (first | rw [kz_o] | rw [kz_r0] | simp -dsimp -implicitDefEqProofs only [go_sem, Nat.reduceBEq, Nat.reduceAdd, Nat.reduceLeDiff, Nat.reduceMul, Int.reduceLE, Int.reduceLT, Int.reduceBEq, a10, a11, a12, ce0, ce1])
  refine ⟨by repeat (first | exact L1 | refine le_set ?_ (by omega)), _, b0 ++ b1, rfl, outTurns (c := c) ?_ ?_, ?_⟩
  · refine OT.frame o0 fun b hb => ?_
    have hbl := bl0.2 b (hb)
    simp only [hn_push, hn_set] at hbl
    simp only [H2.set]
    rw [if_neg (by omega), if_neg (by omega)]
    rw [show g1.get b = _ from l1.2 b (by simp only [hn_set]; omega)]
    simp only [hg, H2.set]
    rw [if_neg (by omega)]
  · refine OT.frame o1 fun b hb => ?_
    have hbl := bl1.2 b (hb)
    simp only [hn_push, hn_set] at hbl
    simp only [H2.set]
    rw [if_neg (by omega), if_neg (by omega)]
  · simp only [hn_set]
    have m0 := bl0
    simp only [hn_push, hn_set] at m0
    have m1 := bl1
    simp only [hn_push, hn_set] at m1
    have := ((Bl.append m0 m1 (by omega) (by omega))).wide (N' := hn h .mk) (by omega) (Nat.le_refl _)
    simpa only [List.append_assoc] using this
end Go.Bi
end
