/- Walks over rows of numbers. -/
import Derived.Test.YtjofbadmkigkjaaTy
import Derived.Test.YtjofbadmkigkjaaB2
set_option linter.unusedSimpArgs false
set_option linter.unusedVariables false
set_option maxRecDepth 20000
namespace Go.Bi
open Go.Proofs
open Go.Ai (wrap_i64 wrap_u64 wrap_u8)
variable {W0 : World}
theorem hoo (x : Nat) : (x == x) = true := by simp
theorem nat_nn (k : Nat) : ((0 : Int) ≤ (k : Int)) = True := eq_true (Int.natCast_nonneg k)
theorem wrap_succ {k n : Nat} (hk : k < n) (hn : n ≤ 9223372036854775807) : IntKind.i64.wrap ((k : Int) + 1) = ((k + 1 : Nat) : Int) := by rw [wrap_i64] <;> omega
theorem hbo (b : ByteArray) : (b.toList == b.toList) = true := by simp
attribute [go_sem] hoo hbo nat_nn Int.toNat_natCast eq_self not_true_eq_false Int.natCast_zero true_and and_true
/-! ### Bytes and texts -/
variable {P : Program} {K : KT}
def isU8 : Option Go.Ai.Cls → Bool
  | some (.int .u8) => true
  | _ => false
theorem isU8_t : isU8 (some (.int .u8)) = true := rfl
def strO (o : Option (List UInt8)) (h : H2) : Option (X × H2) := match o with | some bs => some (.raw (.string ⟨bs.toArray⟩), h) | none => none
theorem strO_some {bs : List UInt8} {h : H2} : strO (some bs) h = some (.raw (.string ⟨bs.toArray⟩), h) := rfl
theorem cv_src {s d : TypeId} {h : H2} {x : X} {n : Nat} {l : List X} (hs : Go.Ai.cls? P s = some .sl) (hd : Go.Ai.cls? P d = some .str) (he : (Go.Ai.elt? P s).isSome = true) (hz : (Go.Ai.eltZ (Go.Ai.elt? P s) == 1) = true) (hc : isU8 (Go.Ai.cls? P (Go.Ai.eltT (Go.Ai.elt? P s))) = true)
    (hx : srcX h 1 x = some (n, l)) : convz P h s d x .mk = strO (bytesX l) h := by
  simp only [convz, convX, hs, hd]
  cases hq : Go.Ai.elt? P s with
  | none => rw [hq] at he; cases he
  | some q =>
    obtain ⟨u, z, b⟩ := q
    rw [hq] at hz hc
    simp only [Go.Ai.eltZ, beq_iff_eq] at hz
    subst hz
    simp only [hx]
    simp only [Go.Ai.eltT] at hc
    cases hu : Go.Ai.cls? P u with
    | none => rw [hu] at hc; cases hc
    | some c =>
      rw [hu] at hc
      cases c <;> try cases hc
      rename_i k
      cases k <;> try cases hc
      cases bytesX l <;> rfl
theorem cv_bytes {s d : TypeId} {h : H2} {f : Adr} {es : List (List T)} (hs : Go.Ai.cls? P s = some .sl) (hd : Go.Ai.cls? P d = some .str) (he : (Go.Ai.elt? P s).isSome = true) (hz : (Go.Ai.eltZ (Go.Ai.elt? P s) == 1) = true) (hc : isU8 (Go.Ai.cls? P (Go.Ai.eltT (Go.Ai.elt? P s))) = true) :
    convz P h s d (.sl f 1 es) .mk = strO (bytesX (flatX f 0 es)) h := cv_src hs hd he hz hc rfl
theorem flat_nil {f : Adr} {i : Nat} : flatX f i [] = [] := rfl
theorem flat_cons {f : Adr} {i : Nat} {e : List T} {r : List (List T)} : flatX f i (e :: r) = mkL (under f i) 0 e ++ flatX f (i + 1) r := rfl
def byO (b : UInt8) (o : Option (List UInt8)) : Option (List UInt8) := match o with | some r => some (b :: r) | none => none
theorem byO_some {b : UInt8} {r : List UInt8} : byO b (some r) = some (b :: r) := rfl
theorem by_nil : bytesX [] = some [] := rfl
theorem by_cons {x : Int} {l : List X} : bytesX (.raw (.int .u8 x) :: l) = byO (UInt8.ofNat x.toNat) (bytesX l) := by simp only [bytesX, Go.Ai.byteV, byO]; cases bytesX l <;> rfl
def cB (b : UInt8) : X := .raw (.int .u8 b.toNat)
theorem bytes_map : ∀ {bs : List UInt8}, bytesX (bs.map cB) = some bs
  | [] => rfl
  | b :: bs => by simp only [List.map_cons, cB, by_cons, bytes_map, byO, Int.toNat_natCast, UInt8.ofNat_toNat]
attribute [go_sem] isU8_t strO_some cv_bytes flat_nil flat_cons byO_some by_nil by_cons List.cons_append List.nil_append
def inI (x a b : Int) : Bool := decide (a ≤ x) && decide (x ≤ b)
theorem l01In_ok {x a b : Int} {h : H2} : WC2 Try.prog W0 36 [.raw (.int .i64 x), .raw (.int .i64 a), .raw (.int .i64 b)] h (fun v h' => v = .raw (.bool (inI x a b)) ∧ h' = h) := by
  refine start (P := Try.prog) [[0, 1, 2], [0, 1, 2]] (by kernel_rfl) Try.func36 rfl (by decide) (by decide +kernel) (rs := [.tmp 6]) rfl rfl (Nat.le_of_ble_eq_true rfl) ?_
  intro wf
  repeat (first | rw [kz_o] | rw [kz_r0] | simp -dsimp -implicitDefEqProofs only [go_sem, Nat.reduceBEq, Nat.reduceAdd, Nat.reduceLeDiff, Nat.reduceMul, Int.reduceLE, Int.reduceLT, Int.reduceBEq])
  refine gz_dec (fun h1 => ?_) (fun h1 => ?_)
  · repeat (first | rw [kz_o] | rw [kz_r0] | simp -dsimp -implicitDefEqProofs only [go_sem, Nat.reduceBEq, Nat.reduceAdd, Nat.reduceLeDiff, Nat.reduceMul, Int.reduceLE, Int.reduceLT, Int.reduceBEq, h1])
    exact ⟨by simp [inI, h1], rfl⟩
  · repeat (first | rw [kz_o] | rw [kz_r0] | simp -dsimp -implicitDefEqProofs only [go_sem, Nat.reduceBEq, Nat.reduceAdd, Nat.reduceLeDiff, Nat.reduceMul, Int.reduceLE, Int.reduceLT, Int.reduceBEq, h1])
    exact ⟨by simp [inI, h1], rfl⟩
theorem in_ok {x a b : Int} {h : H2} : WC2 Try.prog W0 90 [.raw (.int .i64 x), .raw (.int .i64 a), .raw (.int .i64 b)] h (fun v h' => v = .raw (.bool (inI x a b)) ∧ h' = h) := by
  refine start (P := Try.prog) [[0, 1, 2], [0, 1, 2]] (by kernel_rfl) Try.func90 rfl (by decide) (by decide +kernel) (rs := [.tmp 6]) rfl rfl (Nat.le_of_ble_eq_true rfl) ?_
  intro wf
  repeat (first | rw [kz_o] | rw [kz_r0] | simp -dsimp -implicitDefEqProofs only [go_sem, Nat.reduceBEq, Nat.reduceAdd, Nat.reduceLeDiff, Nat.reduceMul, Int.reduceLE, Int.reduceLT, Int.reduceBEq])
  refine gz_dec (fun h1 => ?_) (fun h1 => ?_)
  · repeat (first | rw [kz_o] | rw [kz_r0] | simp -dsimp -implicitDefEqProofs only [go_sem, Nat.reduceBEq, Nat.reduceAdd, Nat.reduceLeDiff, Nat.reduceMul, Int.reduceLE, Int.reduceLT, Int.reduceBEq, h1])
    exact ⟨by simp [inI, h1], rfl⟩
  · repeat (first | rw [kz_o] | rw [kz_r0] | simp -dsimp -implicitDefEqProofs only [go_sem, Nat.reduceBEq, Nat.reduceAdd, Nat.reduceLeDiff, Nat.reduceMul, Int.reduceLE, Int.reduceLT, Int.reduceBEq, h1])
    exact ⟨by simp [inI, h1], rfl⟩
theorem indexI_ok {F : FuncId} {p : Int → Bool} {caps : List Value} {f : Adr} {ss : List Int} {h : H2} (hn0 : ss.length ≤ 9223372036854775807)
    (hf : ∀ s, WC2 Try.prog W0 F ([.raw (.int .i64 s)] ++ caps.map .raw) h (fun v h' => v = .raw (.bool (p s)) ∧ h' = h)) :
    WC2 Try.prog W0 137 [.sl f 1 (ints ss), .raw (.func (.func F) #[] caps.toArray)] h (fun v h' => (∃ k : Int, v = .raw (.int .i64 k) ∧ decide (0 ≤ k) = ss.any p) ∧ h' = h) := by
  refine start (P := Try.prog) [[0, 1], [0, 1], [0, 1, 7, 8], [0, 1, 7, 8], [0, 1, 5, 7, 8], [5], [0, 1, 7, 8], []] (by kernel_rfl) Try.func137 rfl (by decide) (by decide +kernel) (rs := [.tmp 4]) rfl rfl (Nat.le_of_ble_eq_true rfl) ?_
  intro wf
  repeat (first | rw [kz_o] | rw [kz_r0] | simp -dsimp -implicitDefEqProofs only [go_sem, Nat.reduceBEq, Nat.reduceAdd, Nat.reduceLeDiff, Nat.reduceMul, Int.reduceLE, Int.reduceLT, Int.reduceBEq])
  refine lz_intro (fun m e h' => h' = h ∧ look e 0 .mk = .sl f 1 (ints ss) ∧ look e 1 .mk = .raw (.func (.func F) #[] caps.toArray) ∧ look e 7 .mk = .raw (.int .i64 ss.length) ∧ ∃ k : Nat, look e 8 .mk = .raw (.int .i64 k) ∧ m + k = ss.length ∧ ∀ j : Nat, j < k → p (ss.getD j default) = false) ss.length ?_ ?_
  · refine ⟨rfl, ?_, ?_, ?_, 0, ?_, by omega, fun j hj => by omega⟩ <;> simp -dsimp -implicitDefEqProofs only [go_sem, Nat.reduceBEq, Nat.reduceAdd, Nat.reduceLeDiff, Nat.reduceMul, Int.reduceLE, Int.reduceLT, Int.reduceBEq, Int.natCast_zero]
  · rintro m e h ⟨rfl, e0, e1, e7, k, e8, hk, hpre⟩
    repeat (first | rw [kz_o] | rw [kz_r0] | simp -dsimp -implicitDefEqProofs only [go_sem, Nat.reduceBEq, Nat.reduceAdd, Nat.reduceLeDiff, Nat.reduceMul, Int.reduceLE, Int.reduceLT, Int.reduceBEq, e0, e1, e7, e8])
    refine gz_dec (fun h2 => ?_) (fun h2 => ?_)
    · have h3 : k < ss.length := by omega
      repeat (first | rw [kz_o] | rw [kz_r0] | simp -dsimp -implicitDefEqProofs only [go_sem, Nat.reduceBEq, Nat.reduceAdd, Nat.reduceLeDiff, Nat.reduceMul, Int.reduceLE, Int.reduceLT, Int.reduceBEq, e0, e1, e7, e8, nat_nn, Int.toNat_natCast, h3])
      refine wz_intro (hf _) ?_
      rintro _ h' ⟨rfl, rfl⟩
      repeat (first | rw [kz_o] | rw [kz_r0] | simp -dsimp -implicitDefEqProofs only [go_sem, Nat.reduceBEq, Nat.reduceAdd, Nat.reduceLeDiff, Nat.reduceMul, Int.reduceLE, Int.reduceLT, Int.reduceBEq, e0, e1, e7, e8])
      refine gz_intro (fun h4 => ?_) (fun h4 => ?_)
      · repeat (first | rw [kz_o] | rw [kz_r0] | simp -dsimp -implicitDefEqProofs only [go_sem, Nat.reduceBEq, Nat.reduceAdd, Nat.reduceLeDiff, Nat.reduceMul, Int.reduceLE, Int.reduceLT, Int.reduceBEq, e0, e1, e7, e8])
        refine ⟨⟨_, rfl, ?_⟩, rfl⟩
        have : ss.any p = true := List.any_eq_true.2 ⟨_, List.getElem_mem h3, by rw [List.getD_eq_getElem?_getD, List.getElem?_eq_getElem h3] at h4; exact h4⟩
        rw [this]; simp
      · repeat (first | rw [kz_o] | rw [kz_r0] | simp -dsimp -implicitDefEqProofs only [go_sem, Nat.reduceBEq, Nat.reduceAdd, Nat.reduceLeDiff, Nat.reduceMul, Int.reduceLE, Int.reduceLT, Int.reduceBEq, e0, e1, e7, e8, wrap_succ h3 hn0])
        refine ⟨m - 1, by omega, rfl, ?_, ?_, ?_, k + 1, ?_, by omega, ?_⟩
        · simp -dsimp -implicitDefEqProofs only [go_sem, Nat.reduceBEq, Nat.reduceAdd, Nat.reduceLeDiff, Nat.reduceMul, Int.reduceLE, Int.reduceLT, Int.reduceBEq]
        · simp -dsimp -implicitDefEqProofs only [go_sem, Nat.reduceBEq, Nat.reduceAdd, Nat.reduceLeDiff, Nat.reduceMul, Int.reduceLE, Int.reduceLT, Int.reduceBEq]
        · simp -dsimp -implicitDefEqProofs only [go_sem, Nat.reduceBEq, Nat.reduceAdd, Nat.reduceLeDiff, Nat.reduceMul, Int.reduceLE, Int.reduceLT, Int.reduceBEq]
        · simp -dsimp -implicitDefEqProofs only [go_sem, Nat.reduceBEq, Nat.reduceAdd, Nat.reduceLeDiff, Nat.reduceMul, Int.reduceLE, Int.reduceLT, Int.reduceBEq]
        · intro j hj
          by_cases hji : j = k
          · subst hji; exact h4
          · exact hpre j (by omega)
    · repeat (first | rw [kz_o] | rw [kz_r0] | simp -dsimp -implicitDefEqProofs only [go_sem, Nat.reduceBEq, Nat.reduceAdd, Nat.reduceLeDiff, Nat.reduceMul, Int.reduceLE, Int.reduceLT, Int.reduceBEq, e0, e1, e7, e8])
      refine ⟨⟨_, rfl, ?_⟩, rfl⟩
      have : ss.any p = false := by
        rw [List.any_eq_false]
        intro x hx
        obtain ⟨j, hj, rfl⟩ := List.getElem_of_mem hx
        have := hpre j (by omega)
        rw [List.getD_eq_getElem?_getD, List.getElem?_eq_getElem hj] at this
        simpa using this
      rw [this]; rfl
end Go.Bi
