/- Deep values, part 8: calls that only read, and rows that are lent to them. Nothing about the program stands here. -/
import Derived.Test.YtdakdjpndomdpaaBi7
set_option linter.unusedVariables false
set_option linter.unusedSimpArgs false
namespace Go.Bi
open Go.Ai (Hold Heap WC)
variable {P : Program} {W0 : World} {g : H2} {K : KT}

theorem S.wf {h : Heap} (s : S g h) : ∀ b, hn g .mk ≤ b → g.get b = none := fun b hb => by
  cases hk : g.get b with
  | none => rfl
  | some k => have := (s.row _ _ hk).1; have h2 := s.n; unfold hn at hb; omega
/-- Comes back with what is only read, and one's own rows as they were. -/
def PW (P : Program) (W0 : World) (f : FuncId) (xs : List X) (g : H2) (Q : X → Prop) : Prop :=
  WC2 P W0 f xs g fun y g' => g' = g.up (hn g' .mk) ∧ hn g .mk ≤ hn g' .mk ∧ Q y
theorem PW.mono {f : FuncId} {xs : List X} {Q Q' : X → Prop} (c : PW P W0 f xs g Q) (hq : ∀ y, Q y → Q' y) : PW P W0 f xs g Q' := WC2.mono c fun y g' ⟨h1, h2, h3⟩ => ⟨h1, h2, hq y h3⟩
theorem PW.of {q : Nat → Prop} {f : FuncId} {xs : List X} {Q : X → Prop} (c : WC2 P W0 f xs g fun x g' => g.le g' ∧ ∃ y, Fz (fun b => hn g .mk ≤ b) q g' x y ∧ Q y) :
    PW P W0 f xs g fun y => Q y ∧ AllB (fun b => hn g .mk ≤ b ∨ q b) y := by
  intro h s o
  refine (c h s o).mono ?_
  rintro v h' ⟨x, g', rfl, s', x', o', le, y, fz, hq⟩
  have hx : Ext g h (g.up (hn g' .mk)) h' := ⟨x'.n, x'.keep, fun _ _ h => h⟩
  refine ⟨y, g.up (hn g' .mk), fz.er.symm, ⟨s'.n, fun b k hk => ?_⟩, hx, ?_, rfl, le.1, hq, fz.all (fun _ h => .inl h) (fun _ h => .inr h)⟩
  · obtain ⟨r1, r2, r3⟩ := s.row b k hk
    have hb : b < hn g .mk := by unfold hn; rw [s.n]; exact r1
    have hk' : g'.get b = some k := (le.2 b hb).trans hk
    obtain ⟨q1, q2, q3⟩ := s'.row b k hk'
    exact ⟨q1, q2, fun x hx2 => (r3 x hx2).mono hx⟩
  · refine fz.ok (g1 := g.up (hn g' .mk)) s' (fun b _ hb => ?_) (fun b hb => s.wf b hb) o'
    by_cases hlt : b < hn g .mk
    · exact (le.2 b hlt).symm.trans hb
    · exact s.wf b (by omega)
theorem PW.scalar {f : FuncId} {xs : List X} {Q : X → Prop} (c : WC2 P W0 f xs g fun x g' => g.le g' ∧ (∃ v, x = .raw v) ∧ Q x) : PW P W0 f xs g Q :=
  (PW.of (q := fun _ => True) (Q := Q) (c.mono fun x g' ⟨h1, ⟨v, h2⟩, h3⟩ => ⟨h1, x, by subst h2; exact .raw, h3⟩)).mono fun y h => h.1
theorem pw_intro {f : FuncId} {xs : List X} {Q : X → Prop} (c : PW P W0 f xs g Q) (hk : ∀ y n, hn g .mk ≤ n → Q y → kz K y (g.up n) .mk) : wz P W0 f xs g K .mk :=
  WC2.mono c fun y g' ⟨h1, h2, h3⟩ => by have := hk y _ h2 h3; rw [← h1] at this; exact this

/-! ### Rows that are lent -/
def H2.bare (g : H2) : H2 := ⟨g.n, fun _ => none⟩
theorem hn_bare : hn g.bare .mk = hn g .mk := rfl
abbrev Lent (g : H2) : X → X → Prop := Fz (fun _ => True) (fun _ => True) g
inductive Lents (g : H2) : List X → List X → Prop
  | nil : Lents g [] []
  | cons {x y : X} {xs ys : List X} : Lent g x y → Lents g xs ys → Lents g (x :: xs) (y :: ys)
theorem Lents.er : ∀ {xs ys : List X}, Lents g xs ys → ys.map Bi.er = xs.map Bi.er
  | _, _, .nil => rfl
  | _, _, .cons a b => by simp only [List.map_cons, Fz.er a, b.er]
theorem S.bare {h : Heap} (s : S g h) : S g.bare h := ⟨s.n, fun b k hk => by cases hk⟩
theorem Lents.ok {h : Heap} (s : S g h) : ∀ {xs ys : List X}, Lents g xs ys → (∀ x ∈ xs, Ok h g x) → ∀ y ∈ ys, Ok h g.bare y
  | _, _, .nil, _, y, hy => by cases hy
  | _, _, .cons a b, o, y, hy => by
    rcases List.mem_cons.1 hy with rfl | hy
    · exact a.ok s (fun _ _ _ => rfl) (fun _ _ => rfl) (o _ (by simp))
    · exact b.ok s (fun x hx => o x (by simp [hx])) y hy
theorem S.back {h h' : Heap} {n : Nat} (s : S g h) (x : Ext g.bare h (g.bare.up n) h') (hn' : n = h'.n) : S (g.up n) h' ∧ Ext g h (g.up n) h' := by
  have hx : Ext g h (g.up n) h' := ⟨x.n, fun b hb _ => x.keep b hb rfl, fun _ _ h => h⟩
  refine ⟨⟨hn', fun b k hk => ?_⟩, hx⟩
  obtain ⟨r1, r2, r3⟩ := s.row b k hk
  exact ⟨Nat.lt_of_lt_of_le r1 x.n, by rw [x.keep b r1 rfl]; exact r2, fun y hy => (r3 y hy).mono hx⟩
/-- What only reads may read one's own rows; what it hands back is new. -/
theorem PW.lend {f : FuncId} {xs ys : List X} {Q : X → Prop} (hl : Lents g xs ys) (c : PW P W0 f ys g.bare Q) (hq : ∀ y, Q y → AllB (fun b => hn g .mk ≤ b) y) : PW P W0 f xs g Q := by
  intro h s o
  rw [← hl.er]
  refine (c h s.bare (hl.ok s o)).mono ?_
  rintro v h' ⟨y, g', rfl, s', x', o', h1, h2, h3⟩
  obtain ⟨n', rfl⟩ : ∃ n, g' = g.bare.up n := ⟨_, h1⟩
  obtain ⟨b1, b2⟩ := s.back x' s'.n
  exact ⟨y, g.up n', rfl, b1, b2, o'.weaken (hq y h3) fun b hb _ => s.wf b hb, rfl, h2, h3⟩
/-- A row of one's own of plain cells that a call hands back. -/
def PWo (P : Program) (W0 : World) (f : FuncId) (xs : List X) (g : H2) (z : Nat) (cs : List X) : Prop :=
  WC2 P W0 f xs g fun x g' => g.le g' ∧ ∃ n, Own (hn g .mk) g' x z n cs
theorem WC2.lendOwn {f : FuncId} {xs ys : List X} {z : Nat} {cs : List X} (hl : Lents g xs ys) (c : PWo P W0 f ys g.bare z cs) (hcs : ∀ x ∈ cs, ∃ v, x = .raw v) : PWo P W0 f xs g z cs := by
  intro h s o
  rw [← hl.er]
  refine (c h s.bare (hl.ok s o)).mono ?_
  rintro v h' ⟨y, g', rfl, s', x', o', le, n, ow⟩
  have hx : Ext g.bare h (g.bare.up h'.n) h' := ⟨x'.n, x'.keep, fun _ _ h => h⟩
  obtain ⟨b1, b2⟩ := s.back hx rfl
  obtain ⟨hlen, hcase⟩ := ow
  rcases hcase with ⟨rfl, rfl⟩ | ⟨b, rfl, hb1, hb2, hb3⟩
  · refine ⟨_, g.up h'.n, rfl, b1, b2, .raw, ⟨?_, fun _ _ => rfl⟩, 0, hlen, .inl ⟨rfl, rfl⟩⟩
    have := x'.n; have := s.n; simp only [hn_up]; unfold hn; omega
  · obtain ⟨r1, r2, r3⟩ := s'.row b _ hb3
    have hn1 : hn g .mk = h.n := s.n
    have hb1' : h.n ≤ b := by have : hn g.bare .mk = hn g .mk := rfl; omega
    let g2 : H2 := (g.up h'.n).set b ⟨z, cs⟩
    have hx2 : Ext g h g2 h' := ⟨x'.n, fun c hc _ => x'.keep c hc rfl, fun c hc hg => by
      have : ¬ c = b := by omega
      simp [g2, H2.set, H2.up, this, hg]⟩
    refine ⟨_, g2, rfl, ⟨rfl, fun c k hk => ?_⟩, hx2, .raw, ⟨?_, fun c hc => ?_⟩, n, hlen, .inr ⟨b, rfl, hb1, r1, ?_⟩⟩
    · simp only [g2, H2.set] at hk
      split at hk
      · rename_i e; subst e; cases hk
        exact ⟨r1, r2, fun x hx => by obtain ⟨v, rfl⟩ := hcs x hx; exact .raw⟩
      · obtain ⟨q1, q2, q3⟩ := s.row c k hk
        exact ⟨Nat.lt_of_lt_of_le q1 x'.n, by rw [x'.keep c q1 rfl]; exact q2, fun y hy => (q3 y hy).mono hx2⟩
    · have := x'.n; show hn g .mk ≤ h'.n; omega
    · show g2.get c = g.get c
      have : ¬ c = b := by omega
      simp [g2, H2.set, H2.up, this]
    · show g2.get b = _
      simp [g2, H2.set]
theorem Own.fz {p q : Nat → Prop} {N z n : Nat} {x : X} {cs : List X} {ts : List T} (o : Own N g x z n cs) (hp : ∀ b, N ≤ b → p b) (hc : ∀ c ∈ cs, Fz p q g c c) (ht : toTs cs = some ts) : ∃ f, Fz p q g x (.sl f z (chunk z n ts)) := by
  obtain ⟨hlen, hcase⟩ := o
  rcases hcase with ⟨rfl, rfl⟩ | ⟨b, rfl, hb1, hb2, hb3⟩
  · exact ⟨_, .nil⟩
  · exact ⟨_, .own (cs' := cs) hb3 (hp b hb1) hlen rfl (fun i hi hi' => hc _ (List.getElem_mem hi)) ht⟩

/-! ### Rows of numbers -/
def eI (n : Int) : List T := [.v (.int .i64 n)]
theorem eI_def {n : Int} : eI n = [.v (.int .i64 n)] := rfl
def cI (n : Int) : X := .raw (.int .i64 n)
theorem cI_def {n : Int} : cI n = .raw (.int .i64 n) := rfl
def ints (zs : List Int) : List (List T) := zs.map eI
theorem ints_len {zs : List Int} : (ints zs).length = zs.length := by simp [ints]
theorem ints_el {zs : List Int} {i : Nat} (hi : i < zs.length) : el (ints zs) i = eI (zs.getD i default) := el_map hi
theorem toTs_ints : ∀ {zs : List Int}, toTs (zs.map cI) = some (zs.map fun n => .v (.int .i64 n))
  | [] => rfl
  | z :: zs => by simp only [List.map_cons, toTs_cons, cI, toT_int, toTs_ints, toTc_some]
theorem chunk_ints : ∀ {zs : List Int}, chunk 1 zs.length (zs.map fun n => T.v (.int .i64 n)) = ints zs
  | [] => rfl
  | z :: zs => by simp only [List.length_cons, List.map_cons, chunk, List.take_succ_cons, List.take_zero, List.drop_succ_cons, List.drop_zero, chunk_ints, ints, eI]
/-- A row of numbers of one's own. -/
def OwnI (N : Nat) (g : H2) (v : X) (zs : List Int) : Prop := Own N g v 1 zs.length (zs.map cI)
theorem OwnI.keep {N : Nat} {g g' : H2} {v : X} {zs : List Int} (o : OwnI N g v zs) (l : g.le g') : OwnI N g' v zs := Own.keep o l
theorem OwnI.fz {p q : Nat → Prop} {N : Nat} {x : X} {zs : List Int} (o : OwnI N g x zs) (hp : ∀ b, N ≤ b → p b) : ∃ f, Fz p q g x (.sl f 1 (ints zs)) := by
  have := Own.fz (p := p) (q := q) o hp (fun c hc => by obtain ⟨z, _, rfl⟩ := List.mem_map.1 hc; exact .raw) toTs_ints
  rwa [chunk_ints] at this
theorem OwnI.lent {N : Nat} {x : X} {zs : List Int} (o : OwnI N g x zs) : ∃ f, Lent g x (.sl f 1 (ints zs)) := o.fz fun _ _ => trivial
theorem lent_raw {v : Value} : Lent g (.raw v) (.raw v) := Fz.raw
theorem lent_sl {f : Adr} {z : Nat} {es : List (List T)} {h : Heap} (o : Ok h g (.sl f z es)) : Lent g (.sl f z es) (.sl f z es) := Fz.sl o.all
/-- A row of numbers, new. -/
abbrev PI (P : Program) (W0 : World) (f : FuncId) (xs : List X) (g : H2) (zs : List Int) : Prop := WC2 P W0 f xs g fun x g' => g.le g' ∧ OwnI (hn g .mk) g' x zs
theorem PI.pw {f : FuncId} {xs : List X} {zs : List Int} (c : PI P W0 f xs g zs) : PW P W0 f xs g fun y => (∃ f, y = .sl f 1 (ints zs)) ∧ AllB (fun b => hn g .mk ≤ b) y := by
  refine (PW.of (q := fun b => hn g .mk ≤ b) (Q := fun y => ∃ f, y = .sl f 1 (ints zs)) (c.mono ?_)).mono fun y ⟨h1, h2⟩ => ⟨h1, h2.imp fun b hb => hb.elim id id⟩
  rintro x g' ⟨le, ow⟩
  obtain ⟨f, hf⟩ := ow.fz (p := fun b => hn g .mk ≤ b) (q := fun b => hn g .mk ≤ b) fun _ h => h
  exact ⟨le, _, hf, f, rfl⟩
theorem PI.lend {f : FuncId} {xs ys : List X} {zs : List Int} (hl : Lents g xs ys) (c : PI P W0 f ys g.bare zs) : PI P W0 f xs g zs := by
  have c' : PWo P W0 f ys g.bare 1 (zs.map cI) := c.mono fun x g' ⟨h1, h2⟩ => ⟨h1, _, h2⟩
  refine (WC2.lendOwn hl c' fun x hx => by obtain ⟨z, _, rfl⟩ := List.mem_map.1 hx; exact ⟨_, rfl⟩).mono ?_
  rintro x g' ⟨h1, n, h2⟩
  have : n = zs.length := by have := h2.1; simp at this; omega
  subst this
  exact ⟨h1, h2⟩
attribute [go_sem] eI_def ints_len ints_el
end Go.Bi
