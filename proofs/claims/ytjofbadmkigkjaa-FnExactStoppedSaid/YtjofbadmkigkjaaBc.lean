/- The walks over rows of plain cells, in the form in which structs use them. -/
import Derived.Test.YtjofbadmkigkjaaBb
set_option linter.unusedSimpArgs false
set_option linter.unusedVariables false
namespace Go.Bi
open Go.Proofs
open Go.Ai (plainS)
variable {W0 : World}
theorem up_up {h : H2} {n m : Nat} : (h.up n).up m = h.up m := rfl
attribute [go_sem] up_up
theorem OTs.head {g : H2} {bs : List Nat} {ys : List X} {t : T} {ts : List T} (o : OTs g bs ys (t :: ts)) : ∃ b1 b2 y ys', bs = b1 ++ b2 ∧ ys = y :: ys' ∧ OT g b1 y t ∧ OTs g b2 ys' ts := by
  cases o with | cons a b => exact ⟨_, _, _, _, rfl, rfl, a, b⟩
theorem OTs.headv {g : H2} {bs : List Nat} {ys : List X} {v : Value} {ts : List T} (o : OTs g bs ys (.v v :: ts)) : ∃ ys', ys = .raw v :: ys' ∧ OTs g bs ys' ts := by
  cases o with | cons a b => cases a; exact ⟨_, rfl, b⟩
theorem OTs.tail0 {g : H2} {bs : List Nat} {ys : List X} (o : OTs g bs ys []) : bs = [] ∧ ys = [] := by cases o; exact ⟨rfl, rfl⟩
theorem szIntS_pw {f : Adr} {zs : List Int} {left : Int} {h : H2} (hn0 : zs.length ≤ 9223372036854775807) (hl : 0 ≤ left ∧ left ≤ 1048576) : PW Try.prog W0 52 [.sl f 1 (ints zs), .raw (.int .i64 left)] h (fun y => ∃ k : Int, y = .raw (.int .i64 k) ∧ (0 ≤ k → (zs.length : Int) + k ≤ left)) :=
  PW.scalar ((szIntS_ok hn0 hl).mono fun y g' ⟨⟨k, h1, h2⟩, h3⟩ => ⟨by rw [h3]; exact H2.le.refl _, ⟨_, h1⟩, k, h1, h2⟩)
theorem szStringS_pw {f : Adr} {zs : List ByteArray} {left : Int} {h : H2} (hn0 : zs.length ≤ 9223372036854775807 ∧ ∀ s ∈ zs, s.size ≤ 9223372036854775807) (hl : 0 ≤ left ∧ left ≤ 1048576) : PW Try.prog W0 55 [.sl f 1 (strs zs), .raw (.int .i64 left)] h (fun y => ∃ k : Int, y = .raw (.int .i64 k) ∧ (0 ≤ k → (zs.length : Int) + sumL zs + k ≤ left)) :=
  PW.scalar ((szStringS_ok hn0.1 hn0.2 hl).mono fun y g' ⟨⟨k, h1, h2⟩, h3⟩ => ⟨by rw [h3]; exact H2.le.refl _, ⟨_, h1⟩, k, h1, h2⟩)
theorem eqIntS_pw {f f' : Adr} {zs : List Int} {h : H2} (hn0 : zs.length ≤ 9223372036854775807) : PW Try.prog W0 24 [.sl f 1 (ints zs), .sl f' 1 (ints zs)] h (fun y => y = .raw (.bool true)) :=
  PW.scalar ((eqIntS_ok hn0).mono fun y g' ⟨h1, h3⟩ => ⟨by rw [h3]; exact H2.le.refl _, ⟨_, h1⟩, h1⟩)
theorem eqStringS_pw {f f' : Adr} {zs : List ByteArray} {h : H2} (hn0 : zs.length ≤ 9223372036854775807) : PW Try.prog W0 71 [.sl f 1 (strs zs), .sl f' 1 (strs zs)] h (fun y => y = .raw (.bool true)) :=
  PW.scalar ((eqStringS_ok hn0).mono fun y g' ⟨h1, h3⟩ => ⟨by rw [h3]; exact H2.le.refl _, ⟨_, h1⟩, h1⟩)
theorem strs_T {zs : List ByteArray} : strs zs = (zs.map Value.string).map fun v => [T.v v] := by simp [strs, eS, Function.comp_def]
theorem OwnS.tree {g : H2} {N : Nat} {x : X} {zs : List ByteArray} (o : OwnS N g x zs) : ∃ bs, OT g bs x (.l 1 (strs zs)) ∧ Bl N (hn g .mk) bs := by
  obtain ⟨hl, hc⟩ := o
  rcases hc with ⟨rfl, h0⟩ | ⟨b, rfl, h1, h2, h3⟩
  · have : zs = [] := List.eq_nil_of_length_eq_zero h0
    subst this
    exact ⟨[], .nil, .nil⟩
  · have e : zs.map cS = (zs.map Value.string).map .raw := by simp [Function.comp_def]
    rw [e] at h3
    have := OT.flat (N := N) h3 (fun v hv => by obtain ⟨z, _, rfl⟩ := List.mem_map.1 hv; rfl)
    rw [← strs_T, List.length_map] at this
    exact ⟨[b], this, (Bl.one h2).wide h1 (Nat.le_refl _)⟩
theorem OT.ownS {g : H2} {bs : List Nat} {x : X} {zs : List ByteArray} (o : OT g bs x (.l 1 (strs zs))) {N : Nat} (hb : Bl N (hn g .mk) bs) : OwnS N g x zs := by
  generalize ht : T.l 1 (strs zs) = t at o
  cases o with
  | raw => cases ht
  | nil =>
    simp only [T.l.injEq] at ht
    have : zs = [] := by cases zs <;> simp_all [strs]
    subst this
    exact .nil
  | row h1 h2 h3 h4 h5 =>
    simp only [T.l.injEq] at ht
    obtain ⟨rfl, rfl⟩ := ht
    rename_i b n bs' cs
    simp at h2
    have hn' : zs.length = n := by rw [← h3]; simp [strs]
    subst hn'
    refine ⟨by simp, .inr ⟨b, rfl, (hb.2 b (by simp)).1, (hb.2 b (by simp)).2, ?_⟩⟩
    have hcs : cs = zs.map cS := by
      clear h1 h2 h3 h4 hb
      induction zs generalizing cs bs' with
      | nil => simp [strs] at h5; cases h5; rfl
      | cons z zs ih =>
        simp only [strs, eS, List.map_cons, List.flatten_cons, List.cons_append, List.nil_append] at h5
        cases h5 with
        | cons a b =>
          cases a
          rw [List.map_cons, ih b]
    rw [← hcs]; exact h1
theorem toIntS_new {f : Adr} {zs : List Int} {h : H2} (hn0 : zs.length ≤ 1048576) : NewT Try.prog W0 20 [.sl f 1 (ints zs)] h (.l 1 (ints zs)) :=
  (toIntS_ok hn0).mono fun v h' ⟨h1, h2⟩ => ⟨h1, OwnI.tree h2⟩
theorem toStringS_new {f : Adr} {zs : List ByteArray} {h : H2} (hn0 : zs.length ≤ 1048576) : NewT Try.prog W0 63 [.sl f 1 (strs zs)] h (.l 1 (strs zs)) :=
  (toStringS_ok hn0).mono fun v h' ⟨h1, h2⟩ => ⟨h1, OwnS.tree h2⟩
theorem OT.cell {g : H2} {bs : List Nat} {x : X} {z : Nat} {es : List (List T)} (o : OT g bs x (.l z es)) : cellsX x = some [x] ∧ okX x = true ∧ isTpX x = false := by
  generalize ht : T.l z es = t at o
  cases o with
  | raw => cases ht
  | nil => exact ⟨rfl, rfl, rfl⟩
  | row => exact ⟨rfl, rfl, rfl⟩
theorem Bl.split {N M : Nat} {a b : List Nat} (l : Bl N M (a ++ b)) : Bl N M a ∧ Bl N M b ∧ ∀ x ∈ a, x ∉ b := by
  obtain ⟨h1, h2⟩ := l
  rw [List.nodup_append] at h1
  exact ⟨⟨h1.1, fun x hx => h2 x (by simp [hx])⟩, ⟨h1.2.1, fun x hx => h2 x (by simp [hx])⟩, fun x hx hy => h1.2.2 x hx x hy rfl⟩
theorem OT.block {g : H2} {bs : List Nat} {x : X} {z : Nat} {es : List (List T)} (o : OT g bs x (.l z es)) {b : Nat} (hb : blockOf x = some b) : b ∈ bs := by
  generalize ht : T.l z es = t at o
  cases o with
  | raw => cases ht
  | nil => cases hb
  | row h1 h2 h3 h4 h5 => simp only [blockOf] at hb; cases hb; simp
theorem flat_cells : ∀ {vs : List Value}, (vs.map fun v => [T.v v]).flatten = vs.map .v
  | [] => rfl
  | v :: vs => by simp [flat_cells]
theorem OTs.raws_bs {g : H2} : ∀ {vs : List Value} {bs : List Nat} {xs : List X}, OTs g bs xs (vs.map .v) → bs = []
  | [], _, _, o => (OTs.tail0 o).1
  | v :: vs, _, _, o => by
    obtain ⟨ys, rfl, o'⟩ := OTs.headv (by simpa using o)
    exact OTs.raws_bs o'
end Go.Bi
