/- Walks of what a request got, on both sides. -/
import Derived.Test.YtjofbadmkigkjaaBg
set_option linter.unusedSimpArgs false
set_option linter.unusedVariables false
set_option maxRecDepth 20000
namespace Go.Bi
open Go.Proofs
open Go.Ai (wrap_i64 wrap_u64 wrap_u8 Heap)
variable {W0 : World} {P : Program}
/-! ### Parts of rows -/
def slB (f : Adr) (z : Nat) (es : List (List T)) (hh l : Option Nat) : Option X := match hh, l with
  | some hh, some l => some (.sl (subA f l (hh - l) z) z ((es.drop l).take (hh - l)))
  | _, _ => none
def bndL (hh : Option Nat) (lo : Option X) : Option Nat := match hh with | some hh => boundX hh lo 0 | none => none
theorem slB_some {f : Adr} {z : Nat} {es : List (List T)} {hh l : Nat} : slB f z es (some hh) (some l) = some (.sl (subA f l (hh - l) z) z ((es.drop l).take (hh - l))) := rfl
theorem bndL_some {hh : Nat} {lo : Option X} : bndL (some hh) lo = boundX hh lo 0 := rfl
theorem slice_sl {t z : Nat} {h : H2} {f : Adr} {es : List (List T)} {lo hi : Option X} (h1 : (Go.Ai.eltZ (Go.Ai.elt? P t) == z) = true) (he : (Go.Ai.elt? P t).isSome = true) :
    slicez P h t (.sl f z es) lo hi none .mk = slB f z es (boundX es.length hi es.length) (bndL (boundX es.length hi es.length) lo) := by
  simp only [slicez, sliceX]
  cases hq : Go.Ai.elt? P t with
  | none => rw [hq] at he; cases he
  | some q =>
    obtain ⟨u, s, b⟩ := q
    rw [hq] at h1
    simp only [Go.Ai.eltZ, beq_iff_eq] at h1
    simp only [Option.isSome_none, Bool.false_eq_true, if_false, if_pos h1, slB, bndL]
    cases boundX es.length hi es.length with
    | none => rfl
    | some hh => dsimp only; cases boundX hh lo 0 <;> rfl
theorem bo_none {n d : Nat} : boundX n none d = some d := rfl
theorem bo_int {n d : Nat} {k : IntKind} {i : Int} (h0 : 0 ≤ i) (h1 : i ≤ n) : boundX n (some (.raw (.int k i))) d = some i.toNat := by
  simp only [boundX]; rw [if_pos ⟨h0, h1⟩]
theorem ints_drop {zs : List Int} {n : Nat} : (ints zs).drop n = ints (zs.drop n) := by simp [ints]
theorem ints_take {zs : List Int} {n : Nat} : (ints zs).take n = ints (zs.take n) := by simp [ints]
attribute [go_sem] slB_some bndL_some slice_sl bo_none bo_int ints_drop ints_take
theorem WC2.asm {f : FuncId} {xs : List X} {g : H2} {K : X → H2 → Prop} (c : ∀ h, S g h → (∀ x ∈ xs, Ok h g x) → WC2 P W0 f xs g K) : WC2 P W0 f xs g K := fun h s o => c h s o h s o
theorem nil_of {h : Heap} {g : H2} {f : Adr} {z : Nat} {es : List (List T)} (o : Ok h g (.sl f z es)) (hn : nilS (f []) = true) : es = [] := by
  cases o with
  | sl r =>
    cases r with
    | o h1 => rfl
    | l a c h1 h2 h3 h4 =>
      rcases h3 with ⟨_, h5⟩ | ⟨b, off, w, k, cs, rfl, _⟩
      · exact h5
      · rw [h1] at hn; cases hn
theorem flat_ints {f : Adr} : ∀ {zs : List Int} {i : Nat}, flatX f i (ints zs) = zs.map cI
  | [], _ => rfl
  | z :: zs, i => by
    have := flat_ints (f := f) (zs := zs) (i := i + 1)
    simp only [ints, List.map_cons, flatX, eI, mkL, mkC, List.cons_append, List.nil_append, cI] at *
    rw [this]
theorem src_ints {g : H2} {f : Adr} {zs : List Int} : srcX g 1 (.sl f 1 (ints zs)) = some (zs.length, zs.map cI) := by
  simp only [srcX, if_true, flat_ints, ints_len]
theorem ok_ints {zs : List Int} : (zs.map cI).all okX = true := by simp [cI, okX]
theorem append_ints {D : Nat → Option (List Nat)} {g : H2} {K : KT} {t u U y N : Nat} {xs zs : List Int} {x : X} {f : Adr} (he : Go.Ai.elt? P t = some (U, 1, y)) (hz : Go.Ai.zr? P U = some [.int .i64 0]) (hu : Go.Ai.cls? P u = some .sl)
    (hx : OwnI N g x xs) (hN0 : N ≤ hn g .mk) (hn0 : (xs.length + zs.length) * (y + 1) ≤ Go.Ai.most)
    (hk : ∀ v' g', OwnI N g' v' (xs ++ zs) → hn g .mk ≤ hn g' .mk → (∀ g0 : H2, hn g0 .mk ≤ N → g0.le g → g0.le g') → (∀ b, b < hn g .mk → blockOf x ≠ some b → hg g' b .mk = hg g b .mk) → kz K v' g' .mk) :
    az (biz P g .append [t, u] [x, .sl f 1 (ints zs)] .mk) K .mk := by
  refine append_own (z := 0) (N := N) he hz rfl hu hx hN0 src_ints (by simp) ok_ints hn0 ?_
  intro v' g' o
  refine hk v' g' ?_
  unfold OwnI
  rw [List.map_append, List.length_append]
  exact o
def gotI (c : LRequest) : List Int := if inI c.prompt 0 c.tokens.length = true then c.tokens.drop c.prompt.toNat else []
theorem gotI_len {c : LRequest} : (gotI c).length ≤ c.tokens.length := by unfold gotI; split <;> simp
theorem inI_t {x a b : Int} (h : inI x a b = true) : a ≤ x ∧ x ≤ b := by simpa [inI] using h
end Go.Bi
