/- Arguments as the world has them, as deep values. -/
import Derived.Test.YtdakdjpndomdpaaBg
import Derived.Test.YtdakdjpndomdpaaA3
import Derived.WalkKit
import Derived.ProofKit
import Derived.OpenShut
import Derived.ShutString
import Derived.SliceStrings
import Derived.Below
import Derived.RowKit
set_option linter.unusedSimpArgs false
set_option linter.unusedVariables false
namespace Go.Bi
open Go.Proofs Go.ChangeShapes Go.WideShapes Go.RowKit
open Go.Ai (plainS fine h0 ι0 fine_RS okWide_row h0_cell call_true call_of RS R RG WC Row1)
theorem max_eq : maxLen = 9223372036854775807 := by decide
def g0 (W : World) : H2 := ⟨(h0 W).n, fun _ => none⟩
theorem S0 {W : World} : S (g0 W) (h0 W) := ⟨rfl, fun b k hk => by cases hk⟩
/-- Where the elements of a row of single cells stand. -/
def rowA (v : Value) (vs : List Value) : Adr
  | i :: _ => vs.getD i undef
  | [] => v
section
variable {P : Program} {W : World} {H : Type} {enc : TypeId × Value → H} {base : Nat} {sp : Nat → Bool} {held : Bool} {fuel : Nat} {x : DataW H × List MemPlace}
theorem rowAt_le {fits : TypeId → Bool} {d : Nat} {e : TypeId} {count off n : Nat} (h : rowAt P fits d e count off n = true) : off ≤ count * P.cellsOf e := by
  cases d with
  | zero => simp [rowAt] at h
  | succ d =>
    unfold rowAt at h
    simp only at h
    split at h
    · cases h
    · rename_i hs
      have h0 := Nat.div_add_mod off (P.cellsOf e)
      have hlt : off % P.cellsOf e < P.cellsOf e := Nat.mod_lt _ (Nat.pos_of_ne_zero hs)
      rw [Nat.mul_comm count]
      rw [Bool.or_eq_true, Bool.and_eq_true, Bool.and_eq_true, Bool.and_eq_true] at h
      rcases h with ⟨⟨h1, h2⟩, _⟩ | ⟨h1, _⟩
      · have h1' : off % P.cellsOf e = 0 := by simpa using h1
        have h2' : off / P.cellsOf e ≤ count := by have := of_decide_eq_true h2; omega
        have := Nat.mul_le_mul_left (P.cellsOf e) h2'
        omega
      · have h1' : off / P.cellsOf e + 1 ≤ count := of_decide_eq_true h1
        have := Nat.mul_le_mul_left (P.cellsOf e) h1'
        rw [Nat.mul_add, Nat.mul_one] at this
        omega
theorem liesAt_le : ∀ {d : Nat} {e : TypeId} {count off : Nat} {u : TypeId} {n : Nat}, liesAt P d e count off u n = true → off ≤ count * P.cellsOf e
  | 0, _, _, _, _, _, h => by simp [liesAt] at h
  | d + 1, e, count, off, u, n, h => by
    unfold liesAt at h
    rw [Bool.or_eq_true] at h
    rcases h with h | h
    · exact rowAt_le h
    · split at h
      · exact liesAt_le h
      · cases h
theorem okWide_shape {t e : TypeId} {a : Addr} {l k : Nat} (ht : P.underlying t = some (.slice e)) (h : Cell.okWide P W .any base t (.slice (some a) l k)) : fine W.heap.size (.slice (some a) l k) = true ∧ ∃ cs ty fr, W.heap[a.block]? = some (.cells cs ty fr) ∧ a.off ≤ cs.size := by
  have hf : fine W.heap.size (.slice (some a) l k) = true := okWide_row (t := t) ht (by simpa only [Value.okWide, ht] using h)
  refine ⟨hf, ?_⟩
  simp only [Cell.okWide, ht, Cell.ok] at h
  obtain ⟨h1, h2, h3, h4, row, cells, h5, h6⟩ := h
  simp only [World.shape?] at h5
  split at h5
  · rename_i cs row' fr hcs
    cases h5
    have := liesAt_le h6
    have h8 := Nat.div_mul_le_self cs.size (P.cellsOf row)
    exact ⟨cs, row, fr, hcs, by omega⟩
  · cases h5
theorem row_ok {t e : TypeId} {a : Addr} {l k : Nat} {vs : List Value} (ht : P.underlying t = some (.slice e)) (h : Cell.okWide P W .any base t (.slice (some a) l k)) (hl : vs.length = l) (hp : ∀ v ∈ vs, plainS v = true)
    (hc : ∀ i, i < l → W.cell? (a.add i) = some (vs.getD i undef)) : Ok (h0 W) (g0 W) (.sl (rowA (.slice (some a) l k) vs) 1 (vs.map fun v => [.v v])) := by
  obtain ⟨hf, cs, ty, fr, hcs, hoff⟩ := okWide_shape ht h
  obtain ⟨b, o, p⟩ := a
  simp only [fine, Bool.and_eq_true, Option.isNone_iff_eq_none, decide_eq_true_eq] at hf
  obtain ⟨rfl, hb, hlk⟩ := hf
  refine .sl (.l (some ⟨b, o, none⟩) k (by simp [rowA, hl]) (by simp) (.inr ⟨b, o, false, 0, cs.toList.map (Go.Ai.clean W.heap.size), rfl, hb, rfl, ?_, by simp, by simpa using hoff, fun i j hi hj => ?_⟩) fun i j t ht => ?_)
  · simp only [h0, if_pos hb]; rw [hcs]
  · simp at hi
    have hj0 : j = 0 := by omega
    subst hj0
    have hv : plainS (vs.getD i undef) = true := hp (vs.getD i undef) (by rw [List.getD_eq_getElem?_getD, List.getElem?_eq_getElem hi]; exact List.getElem_mem hi)
    have hfi : fine W.heap.size (vs.getD i undef) = true := by
      revert hv; generalize vs.getD i undef = v; intro hv
      unfold Go.Ai.plainS at hv; split at hv <;> first | rfl | cases hv
    obtain ⟨_, _, cs2, e3, e4⟩ := h0_cell (a := ⟨b, o, none⟩) rfl (hc i (by omega)) hfi
    have : cs2 = cs.toList.map (Go.Ai.clean W.heap.size) := by
      simp only [Go.Ai.hg, h0, if_pos hb] at e3
      rw [hcs] at e3; cases e3; rfl
    subst this
    simp only [Nat.mul_one, Nat.add_zero, rowA]
    exact e4
  · simp only [List.getElem?_map] at ht
    cases hv : vs[i]? with
    | none => rw [hv] at ht; cases ht
    | some v =>
      rw [hv] at ht
      cases j with
      | succ j => simp at ht
      | zero =>
        simp at ht; subst ht
        exact .v (by simp [below, rowA, List.getD_eq_getElem?_getD, hv])
theorem arg_ints {t e : TypeId} {v : Value} (ht : P.underlying t = some (.slice e)) (he : P.underlying e = some (.int .i64)) (hce : P.cellsOf e = 1) (h : Cell.okWide P W .any base t v) (htr : DataW.trod enc P W 0 (fun _ => true) held fuel t [v] = some x) :
    ∃ (f : Adr) (zs : List Int), f [] = v ∧ zs.length ≤ 9223372036854775807 ∧ Ok (h0 W) (g0 W) (.sl f 1 (ints zs)) := by
  rcases open_ints ht he hce htr with ⟨hcs, _⟩ | ⟨a, l, c, zs, hcs, _, hlc, hmc, hz, _, hcell, _⟩
  · cases hcs
    exact ⟨fun _ => .slice none 0 0, [], rfl, by simp, .sl (.l none 0 rfl (by simp [ints]) (.inl ⟨rfl, rfl⟩) (by simp [ints]))⟩
  · cases hcs
    have hl : l ≤ zs.length := by rw [hz]; simpa using hlc
    have hlz : ((zs.take l).map (Value.int .i64)).length = l := by simp; omega
    have := row_ok (vs := (zs.take l).map (Value.int .i64)) ht h hlz (fun v hv => by obtain ⟨z, _, rfl⟩ := List.mem_map.1 hv; rfl) (fun i hi => by
      rw [hcell i (by omega)]
      simp only [List.getD_eq_getElem?_getD, List.getElem?_map, List.getElem?_take, if_pos hi, List.getElem?_eq_getElem (show i < zs.length by omega), Option.map_some, Option.getD_some])
    rw [← ints_T] at this
    exact ⟨_, zs.take l, rfl, by have := max_eq; simp; omega, this⟩
theorem arg_strs {t e : TypeId} {v : Value} (ht : P.underlying t = some (.slice e)) (he : P.underlying e = some .string) (hce : P.cellsOf e = 1) (h : Cell.okWide P W .any base t v) (htr : DataW.trod enc P W 0 (fun _ => true) held fuel t [v] = some x) :
    ∃ (f : Adr) (zs : List ByteArray), f [] = v ∧ (zs.length ≤ 9223372036854775807 ∧ ∀ s ∈ zs, s.size ≤ 9223372036854775807) ∧ Ok (h0 W) (g0 W) (.sl f 1 (strs zs)) := by
  rcases open_strings ht he hce htr with ⟨hcs, _⟩ | ⟨a, l, c, zs, hcs, _, hlc, hmc, hz, _, hcell, hsz⟩
  · cases hcs
    exact ⟨fun _ => .slice none 0 0, [], rfl, ⟨by simp, by simp⟩, .sl (.l none 0 rfl (by simp [strs]) (.inl ⟨rfl, rfl⟩) (by simp [strs]))⟩
  · cases hcs
    have hl : l ≤ zs.length := by rw [hz]; simpa using hlc
    have hlz : ((zs.take l).map Value.string).length = l := by simp; omega
    have := row_ok (vs := (zs.take l).map Value.string) ht h hlz (fun v hv => by obtain ⟨z, _, rfl⟩ := List.mem_map.1 hv; rfl) (fun i hi => by
      rw [hcell i (by omega)]
      simp only [List.getD_eq_getElem?_getD, List.getElem?_map, List.getElem?_take, if_pos hi, List.getElem?_eq_getElem (show i < zs.length by omega), Option.map_some, Option.getD_some])
    rw [← strs_T] at this
    exact ⟨_, zs.take l, rfl, ⟨by have := max_eq; simp; omega, fun s hs => by have := hsz s (List.mem_of_mem_take hs); have := max_eq; omega⟩, this⟩
theorem arg_str {t : TypeId} {v : Value} (ht : P.underlying t = some .string) (htr : DataW.trod enc P W 0 (fun _ => true) held fuel t [v] = some x) : ∃ s : ByteArray, v = .string s ∧ s.size ≤ 9223372036854775807 := by
  obtain ⟨s, h1, _, h2⟩ := DataW.trod_string ht htr
  simp at h1
  exact ⟨s, h1, by have := max_eq; omega⟩
theorem arg_int {t : TypeId} {k : IntKind} {v : Value} (ht : P.underlying t = some (.int k)) (htr : DataW.trod enc P W 0 (fun _ => true) held fuel t [v] = some x) : ∃ n : Int, v = .int k n ∧ (Lit.int k n).wf = true := by
  obtain ⟨n, h1, h2, h3⟩ := DataW.trod_int ht htr
  simp at h1
  exact ⟨n, h1, h3⟩
end
/-- From a walk with deep values to the call. -/
theorem law_call {P : Program} {W : World} {f : FuncId} {xs : List X} (c : ∀ g, WC2 P W f xs g fun v _ => v = .raw (.bool true)) (ok : ∀ x ∈ xs, Ok (h0 W) (g0 W) x) (ha : ∀ v ∈ xs.map er, R (ι0 W) v v) :
    Calls P f (xs.map er).toArray W fun e w' => e = .returned (.bool true) ∧ Below W.heap.size W w' :=
  call_true (c (g0 W) (h0 W) S0 ok) (fun v h hv => by obtain ⟨x, g', rfl, _, _, _, rfl⟩ := hv; rfl) ha
theorem R_agg {ι : Go.Ai.Ren} {l : List Value} (h : Go.Ai.All2 (RS ι) l l) : R ι (.agg l.toArray) (.agg l.toArray) := ⟨_, rfl, h⟩
theorem ok_fine {W : World} {f : Adr} {z : Nat} {es : List (List T)} (o : Ok (h0 W) (g0 W) (.sl f z es)) (hf : fine W.heap.size (f []) = true) : RS (ι0 W) (f []) (f []) := fine_RS hf
end Go.Bi
