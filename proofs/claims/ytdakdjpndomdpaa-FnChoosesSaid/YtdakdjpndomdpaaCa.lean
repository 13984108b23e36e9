/- Walks of what a request got, on both sides. -/
import Derived.Test.YtdakdjpndomdpaaBg
set_option linter.unusedSimpArgs false
set_option linter.unusedVariables false
set_option maxRecDepth 20000
namespace Go.Bi
open Go.Proofs
open Go.Ai (wrap_i64 wrap_u64 wrap_u8 Heap)
variable {W0 : World} {P : Program}
/-! ### Parts of rows -/
def slB (f : Adr) (z : Nat) (es : List (List T)) (hh l : Option Nat) : Option X := match hh, l with
  | some hh, some l => some (.sl (subA f l (hh - l) z) z ((es.drop l).take (hh - l)))
  | _, _ => none
def bndL (hh : Option Nat) (lo : Option X) : Option Nat := match hh with | some hh => boundX hh lo 0 | none => none
theorem slB_some {f : Adr} {z : Nat} {es : List (List T)} {hh l : Nat} : slB f z es (some hh) (some l) = some (.sl (subA f l (hh - l) z) z ((es.drop l).take (hh - l))) := rfl
theorem bndL_some {hh : Nat} {lo : Option X} : bndL (some hh) lo = boundX hh lo 0 := rfl
theorem slice_sl {t z : Nat} {h : H2} {f : Adr} {es : List (List T)} {lo hi : Option X} (h1 : (Go.Ai.eltZ (Go.Ai.elt? P t) == z) = true) (he : (Go.Ai.elt? P t).isSome = true) :
    slicez P h t (.sl f z es) lo hi none .mk = slB f z es (boundX es.length hi es.length) (bndL (boundX es.length hi es.length) lo) := by
  simp only [slicez, sliceX]
  cases hq : Go.Ai.elt? P t with
  | none => rw [hq] at he; cases he
  | some q =>
    obtain ⟨u, s, b⟩ := q
    rw [hq] at h1
    simp only [Go.Ai.eltZ, beq_iff_eq] at h1
    simp only [Option.isSome_none, Bool.false_eq_true, if_false, if_pos h1, slB, bndL]
    cases boundX es.length hi es.length with
    | none => rfl
    | some hh => dsimp only; cases boundX hh lo 0 <;> rfl
theorem bo_none {n d : Nat} : boundX n none d = some d := rfl
theorem bo_int {n d : Nat} {k : IntKind} {i : Int} (h0 : 0 ≤ i) (h1 : i ≤ n) : boundX n (some (.raw (.int k i))) d = some i.toNat := by
  simp only [boundX]; rw [if_pos ⟨h0, h1⟩]
theorem ints_drop {zs : List Int} {n : Nat} : (ints zs).drop n = ints (zs.drop n) := by simp [ints]
theorem ints_take {zs : List Int} {n : Nat} : (ints zs).take n = ints (zs.take n) := by simp [ints]
attribute [go_sem] slB_some bndL_some slice_sl bo_none bo_int ints_drop ints_take
theorem WC2.asm {f : FuncId} {xs : List X} {g : H2} {K : X → H2 → Prop} (c : ∀ h, S g h → (∀ x ∈ xs, Ok h g x) → WC2 P W0 f xs g K) : WC2 P W0 f xs g K := fun h s o => c h s o h s o
theorem nil_of {h : Heap} {g : H2} {f : Adr} {z : Nat} {es : List (List T)} (o : Ok h g (.sl f z es)) (hn : nilS (f []) = true) : es = [] := by
  cases o with
  | sl r =>
    cases r with
    | o h1 => rfl
    | l a c h1 h2 h3 h4 =>
      rcases h3 with ⟨_, h5⟩ | ⟨b, off, w, k, cs, rfl, _⟩
      · exact h5
      · rw [h1] at hn; cases hn
theorem flat_ints {f : Adr} : ∀ {zs : List Int} {i : Nat}, flatX f i (ints zs) = zs.map cI
  | [], _ => rfl
  | z :: zs, i => by
    have := flat_ints (f := f) (zs := zs) (i := i + 1)
    simp only [ints, List.map_cons, flatX, eI, mkL, mkC, List.cons_append, List.nil_append, cI] at *
    rw [this]
theorem src_ints {g : H2} {f : Adr} {zs : List Int} : srcX g 1 (.sl f 1 (ints zs)) = some (zs.length, zs.map cI) := by
  simp only [srcX, if_true, flat_ints, ints_len]
theorem ok_ints {zs : List Int} : (zs.map cI).all okX = true := by simp [cI, okX]
theorem append_ints {D : Nat → Option (List Nat)} {g : H2} {K : KT} {t u U y N : Nat} {xs zs : List Int} {x : X} {f : Adr} (he : Go.Ai.elt? P t = some (U, 1, y)) (hz : Go.Ai.zr? P U = some [.int .i64 0]) (hu : Go.Ai.cls? P u = some .sl)
    (hx : OwnI N g x xs) (hN0 : N ≤ hn g .mk) (hn0 : (xs.length + zs.length) * (y + 1) ≤ Go.Ai.most)
    (hk : ∀ v' g', OwnI N g' v' (xs ++ zs) → hn g .mk ≤ hn g' .mk → (∀ g0 : H2, hn g0 .mk ≤ N → g0.le g → g0.le g') → (∀ b, b < hn g .mk → blockOf x ≠ some b → hg g' b .mk = hg g b .mk) → kz K v' g' .mk) :
    az (biz P g .append [t, u] [x, .sl f 1 (ints zs)] .mk) K .mk := by
  refine append_own (z := 0) (N := N) he hz rfl hu hx hN0 src_ints (by simp) ok_ints hn0 ?_
  intro v' g' o
  refine hk v' g' ?_
  unfold OwnI
  rw [List.map_append, List.length_append]
  exact o
theorem cloneI_ok {f : Adr} {zs : List Int} {g : H2} (hn0 : zs.length ≤ 1048576) : PI Try.prog W0 77 [.sl f 1 (ints zs)] g zs := by
  refine WC2.asm fun hp s o => ?_
  have hnil := nil_of (o _ List.mem_cons_self)
  refine start (P := Try.prog) [[0], [0], [], [0]] (by kernel_rfl) Try.func77 rfl (by decide) (by decide +kernel) (rs := [.tmp 2]) rfl rfl (Nat.le_of_ble_eq_true rfl) ?_
  intro wf
  repeat (first | rw [kz_o] | rw [kz_r0] | simp -dsimp -implicitDefEqProofs only [go_sem, Nat.reduceBEq, Nat.reduceAdd, Nat.reduceLeDiff, Nat.reduceMul, Int.reduceLE, Int.reduceLT, Int.reduceBEq])
  refine gz_intro (fun h1 => ?_) (fun h1 => ?_)
  · have : zs = [] := by have := hnil h1; simpa [ints] using this
    subst this
    repeat (first | rw [kz_o] | rw [kz_r0] | simp -dsimp -implicitDefEqProofs only [go_sem, Nat.reduceBEq, Nat.reduceAdd, Nat.reduceLeDiff, Nat.reduceMul, Int.reduceLE, Int.reduceLT, Int.reduceBEq])
    exact ⟨H2.le.refl _, Own.nil⟩
  · repeat (first | rw [kz_o] | rw [kz_r0] | simp -dsimp -implicitDefEqProofs only [go_sem, Nat.reduceBEq, Nat.reduceAdd, Nat.reduceLeDiff, Nat.reduceMul, Int.reduceLE, Int.reduceLT, Int.reduceBEq])
    refine append_ints (D := fun _ => none) (N := hn g .mk) (xs := []) Go.Ai.ty_el40 Go.Ai.ty_zr3 Go.Ai.ty_cl40 (Own.new (Nat.le_refl _) rfl) (by simp only [hn_push]; omega) (by simp; have : Go.Ai.most = 1099511627776 := rfl; omega) ?_
    intro v' g' o' hn' hle _
    repeat (first | rw [kz_o] | rw [kz_r0] | simp -dsimp -implicitDefEqProofs only [go_sem, Nat.reduceBEq, Nat.reduceAdd, Nat.reduceLeDiff, Nat.reduceMul, Int.reduceLE, Int.reduceLT, Int.reduceBEq])
    exact ⟨hle g (Nat.le_refl _) (H2.le_push1 g _), by simpa using o'⟩
def gotI (c : LRequest) : List Int := if inI c.prompt 0 c.tokens.length = true then c.tokens.drop c.prompt.toNat else []
theorem gotI_len {c : LRequest} : (gotI c).length ≤ c.tokens.length := by unfold gotI; split <;> simp
theorem inI_t {x a b : Int} (h : inI x a b = true) : a ≤ x ∧ x ≤ b := by simpa [inI] using h
theorem implGotOf_ok {F : Nat → Adr} {c : LRequest} {g : H2} (hs : c.tokens.length ≤ 1048576) : PI Try.prog W0 37 [.st (xRequest F c)] g (gotI c) := by
  refine start (P := Try.prog) [[0], [1], [], [1]] (by kernel_rfl) Try.func37 rfl (by decide) (by decide +kernel) (rs := [.tmp 2]) rfl rfl (Nat.le_of_ble_eq_true rfl) ?_
  intro wf
  repeat (first | rw [kz_o] | rw [kz_r0] | simp -dsimp -implicitDefEqProofs only [go_sem, Nat.reduceBEq, Nat.reduceAdd, Nat.reduceLeDiff, Nat.reduceMul, Int.reduceLE, Int.reduceLT, Int.reduceBEq])
  refine wz_intro in_ok ?_
  rintro _ g' ⟨rfl, rfl⟩
  cases hi : inI c.prompt 0 c.tokens.length
  · repeat (first | rw [kz_o] | rw [kz_r0] | simp -dsimp -implicitDefEqProofs only [go_sem, Nat.reduceBEq, Nat.reduceAdd, Nat.reduceLeDiff, Nat.reduceMul, Int.reduceLE, Int.reduceLT, Int.reduceBEq])
    refine ⟨H2.le_push1 g _, ?_⟩
    rw [gotI, if_neg (by rw [hi]; decide)]
    exact Own.nil
  · have h1 := (inI_t hi).1
    have h2 := (inI_t hi).2
    repeat (first | rw [kz_o] | rw [kz_r0] | simp -dsimp -implicitDefEqProofs only [go_sem, Nat.reduceBEq, Nat.reduceAdd, Nat.reduceLeDiff, Nat.reduceMul, Int.reduceLE, Int.reduceLT, Int.reduceBEq, h1, h2])
    refine wz_intro (cloneI_ok (by simp; omega)) ?_
    rintro v g' ⟨l, o⟩
    repeat (first | rw [kz_o] | rw [kz_r0] | simp -dsimp -implicitDefEqProofs only [go_sem, Nat.reduceBEq, Nat.reduceAdd, Nat.reduceLeDiff, Nat.reduceMul, Int.reduceLE, Int.reduceLT, Int.reduceBEq])
    refine ⟨(H2.le_push1 g _).trans l, ?_⟩
    rw [gotI, if_pos hi, ← List.take_of_length_le (l := c.tokens.drop c.prompt.toNat) (i := c.tokens.length - c.prompt.toNat) (by simp)]
    obtain ⟨h3, h4⟩ := o
    exact ⟨h3, h4.imp_right fun ⟨b, e1, e2, e3⟩ => ⟨b, e1, by simp only [hn_push] at e2; omega, e3⟩⟩
theorem specGotOf_ok {F : Nat → Adr} {c : LRequest} {g : H2} (hs : c.tokens.length ≤ 1048576) : PI Try.prog W0 35 [.st (xRequest F c)] g (gotI c) := by
  refine start (P := Try.prog) [[0], [1], [], [1]] (by kernel_rfl) Try.func35 rfl (by decide) (by decide +kernel) (rs := [.tmp 2]) rfl rfl (Nat.le_of_ble_eq_true rfl) ?_
  intro wf
  repeat (first | rw [kz_o] | rw [kz_r0] | simp -dsimp -implicitDefEqProofs only [go_sem, Nat.reduceBEq, Nat.reduceAdd, Nat.reduceLeDiff, Nat.reduceMul, Int.reduceLE, Int.reduceLT, Int.reduceBEq])
  refine wz_intro l01In_ok ?_
  rintro _ g' ⟨rfl, rfl⟩
  cases hi : inI c.prompt 0 c.tokens.length
  · repeat (first | rw [kz_o] | rw [kz_r0] | simp -dsimp -implicitDefEqProofs only [go_sem, Nat.reduceBEq, Nat.reduceAdd, Nat.reduceLeDiff, Nat.reduceMul, Int.reduceLE, Int.reduceLT, Int.reduceBEq])
    refine ⟨le_push (H2.le_push1 g _), ?_⟩
    rw [gotI, if_neg (by rw [hi]; decide)]
    exact Own.new (by simp only [hn_push]; omega) rfl
  · have h1 := (inI_t hi).1
    have h2 := (inI_t hi).2
    repeat (first | rw [kz_o] | rw [kz_r0] | simp -dsimp -implicitDefEqProofs only [go_sem, Nat.reduceBEq, Nat.reduceAdd, Nat.reduceLeDiff, Nat.reduceMul, Int.reduceLE, Int.reduceLT, Int.reduceBEq, h1, h2])
    refine append_ints (D := fun _ => none) (N := hn g .mk) (xs := []) Go.Ai.ty_el40 Go.Ai.ty_zr3 Go.Ai.ty_cl40 (Own.new (by simp only [hn_push]; omega) rfl) (by simp only [hn_push]; omega) (by simp; have : Go.Ai.most = 1099511627776 := rfl; omega) ?_
    intro v' g' o' hn' hle _
    repeat (first | rw [kz_o] | rw [kz_r0] | simp -dsimp -implicitDefEqProofs only [go_sem, Nat.reduceBEq, Nat.reduceAdd, Nat.reduceLeDiff, Nat.reduceMul, Int.reduceLE, Int.reduceLT, Int.reduceBEq])
    refine ⟨hle g (Nat.le_refl _) (le_push (H2.le_push1 g _)), ?_⟩
    rw [gotI, if_pos hi, ← List.take_of_length_le (l := c.tokens.drop c.prompt.toNat) (i := c.tokens.length - c.prompt.toNat) (by simp)]
    exact o'
theorem implGotOf_tree {c : LRequest} {g : H2} {bs : List Nat} {ys : List X} (o : OTs g bs ys (eRequest c)) (hs : c.tokens.length ≤ 1048576) : NewT Try.prog W0 37 [.st ys] g (.l 1 (ints (gotI c))) := by
  obtain ⟨F, hF⟩ := o.lent
  exact (PI.lend (.cons hF .nil) (implGotOf_ok (F := F) hs)).mono fun x g' ⟨h1, h2⟩ => ⟨h1, OwnI.tree h2⟩
theorem specGotOf_tree {c : LRequest} {g : H2} {bs : List Nat} {ys : List X} (o : OTs g bs ys (eRequest c)) (hs : c.tokens.length ≤ 1048576) : NewT Try.prog W0 35 [.st ys] g (.l 1 (ints (gotI c))) := by
  obtain ⟨F, hF⟩ := o.lent
  exact (PI.lend (.cons hF .nil) (specGotOf_ok (F := F) hs)).mono fun x g' ⟨h1, h2⟩ => ⟨h1, OwnI.tree h2⟩
end Go.Bi
