/- Deep values, part 9: trees of rows of one's own; loops that keep slots. Nothing about the program stands here. -/
import Derived.Test.YtdakdjpndomdpaaBi8
set_option linter.unusedVariables false
set_option linter.unusedSimpArgs false
namespace Go.Bi
open Go.Ai (Hold Heap WC plainS)
variable {P : Program} {W0 : World} {D : Nat → Option (List Nat)} {e : E2} {g : H2} {Q : Q2} {K : KT}

/-! ### Loops that keep slots -/
def samez (ks : List Nat) (e e' : E2) : Prop := ∀ t ∈ ks, look e' t .mk = look e t .mk
theorem same_nil {e e' : E2} : samez [] e e' = True := by simp [samez]
theorem same_cons {e e' : E2} {t : Nat} {ks : List Nat} : samez (t :: ks) e e' = (look e' t .mk = look e t .mk ∧ samez ks e e') := by simp [samez]
theorem lz_keep {b : Code} (ks : List Nat) (I : Nat → E2 → H2 → Prop) (n : Nat) (h0 : I n e g) (hr : ∀ n e' g, samez ks e e' → I n e' g → cz P W0 D b e' g (loopQ2 (fun m e'' g => samez ks e e'' ∧ I m e'' g) n Q) .mk) : lz P W0 D b e g Q .mk :=
  lz_intro (fun m e'' g => samez ks e e'' ∧ I m e'' g) n ⟨fun _ _ => rfl, h0⟩ fun n e' g ⟨h1, h2⟩ => hr n e' g h1 h2
theorem nx_keep {ks : List Nat} {I : Nat → E2 → H2 → Prop} {n : Nat} {e0 : E2} (m : Nat) (hm : m < n) (hs : samez ks e0 e) (hi : I m e g) : nxz (fun m e'' g => samez ks e0 e'' ∧ I m e'' g) n e g .mk := ⟨m, hm, hs, hi⟩

/-! ### Trees -/
def mkG (f : Adr) : T → X
  | .v x => .raw x
  | .l z es => .sl f z es
def mkF (F : Nat → Adr) : Nat → List T → List X
  | _, [] => []
  | j, t :: r => mkG (F j) t :: mkF F (j + 1) r
theorem mkL_mkF {f : Adr} : ∀ {ts : List T} {j : Nat}, mkL f j ts = mkF (under f) j ts
  | [], _ => rfl
  | t :: ts, j => by simp only [mkL, mkF, mkL_mkF]; cases t <;> rfl
theorem mkF_len {F : Nat → Adr} : ∀ {ts : List T} {j : Nat}, (mkF F j ts).length = ts.length
  | [], _ => rfl
  | t :: ts, j => by simp [mkF, mkF_len]
mutual
/-- A cell of one's own, with all rows below it (the blocks are told), and what it holds. -/
inductive OT (g : H2) : List Nat → X → T → Prop
  | raw {v : Value} : plainS v = true → OT g [] (.raw v) (.v v)
  | nil {z : Nat} : OT g [] (.raw (.slice none 0 0)) (.l z [])
  | row {b n z : Nat} {bs : List Nat} {cs : List X} {es : List (List T)} : g.get b = some ⟨z, cs⟩ → cs.length = n * z → es.length = n → (∀ e ∈ es, e.length = z) → OTs g bs cs es.flatten →
      OT g (b :: bs) (.raw (.slice (some ⟨b, 0, none⟩) n n)) (.l z es)
inductive OTs (g : H2) : List Nat → List X → List T → Prop
  | nil : OTs g [] [] []
  | cons {bs bs' : List Nat} {x : X} {t : T} {xs : List X} {ts : List T} : OT g bs x t → OTs g bs' xs ts → OTs g (bs ++ bs') (x :: xs) (t :: ts)
end
mutual
theorem OT.frame {g g' : H2} : ∀ {bs : List Nat} {x : X} {t : T}, OT g bs x t → (∀ b ∈ bs, g'.get b = g.get b) → OT g' bs x t
  | _, _, _, .raw h, _ => .raw h
  | _, _, _, .nil, _ => .nil
  | _, _, _, .row h1 h2 h3 h4 h5, hb => .row (by rw [hb _ (by simp)]; exact h1) h2 h3 h4 (h5.frame fun b h => hb b (by simp [h]))
theorem OTs.frame {g g' : H2} : ∀ {bs : List Nat} {xs : List X} {ts : List T}, OTs g bs xs ts → (∀ b ∈ bs, g'.get b = g.get b) → OTs g' bs xs ts
  | _, _, _, .nil, _ => .nil
  | _, _, _, .cons h1 h2, hb => .cons (h1.frame fun b h => hb b (by simp [h])) (h2.frame fun b h => hb b (by simp [h]))
end
theorem OTs.len {g : H2} : ∀ {bs : List Nat} {xs : List X} {ts : List T}, OTs g bs xs ts → xs.length = ts.length
  | _, _, _, .nil => rfl
  | _, _, _, .cons _ h => by simp [h.len]
theorem chunk_flat {z : Nat} : ∀ {es : List (List T)}, (∀ e ∈ es, e.length = z) → chunk z es.length es.flatten = es
  | [], _ => rfl
  | e :: es, h => by
    have h1 : e.length = z := h e (by simp)
    simp only [List.length_cons, List.flatten_cons, chunk]
    rw [← h1, List.take_left, List.drop_left, h1, chunk_flat fun x hx => h x (by simp [hx])]
theorem toTs_mkF {F : Nat → Adr} : ∀ {ts : List T} {j : Nat}, (∀ t ∈ ts, ∀ v, t = .v v → plainS v = true) → toTs (mkF F j ts) = some ts
  | [], _, _ => rfl
  | t :: ts, j, h => by
    have h1 := toTs_mkF (F := F) (j := j + 1) fun t ht => h t (List.mem_cons_of_mem _ ht)
    cases t with
    | v x => simp only [mkF, mkG, toTs, h1, toT, if_pos (h _ List.mem_cons_self x rfl)]
    | l z es => simp only [mkF, mkG, toTs, h1, toT]
mutual
theorem OT.plain {g : H2} : ∀ {bs : List Nat} {x : X} {t : T}, OT g bs x t → ∀ v, t = .v v → plainS v = true
  | _, _, _, .raw h, v, e => by cases e; exact h
  | _, _, _, .nil, v, e => by cases e
  | _, _, _, .row .., v, e => by cases e
theorem OTs.plain {g : H2} : ∀ {bs : List Nat} {xs : List X} {ts : List T}, OTs g bs xs ts → ∀ t ∈ ts, ∀ v, t = .v v → plainS v = true
  | _, _, _, .nil, t, ht, _, _ => by cases ht
  | _, _, _, .cons h1 h2, t, ht, v, e => by
    rcases List.mem_cons.1 ht with rfl | ht
    · exact h1.plain v e
    · exact h2.plain t ht v e
end
mutual
theorem OT.fz {p q : Nat → Prop} {g : H2} : ∀ {bs : List Nat} {x : X} {t : T}, OT g bs x t → (∀ b ∈ bs, p b) → ∃ f, Fz p q g x (mkG f t)
  | _, _, _, .raw h, _ => ⟨fun _ => undef, .raw⟩
  | _, _, _, .nil, _ => ⟨_, .nil⟩
  | _, _, _, .row (b := b) (n := n) (z := z) (cs := cs) (es := es) h1 h2 h3 h4 h5, hb => by
    obtain ⟨F, hF⟩ := h5.fz (p := p) (q := q) (j := 0) fun b h => hb b (by simp [h])
    have hl : (mkF F 0 es.flatten).length = cs.length := by rw [mkF_len, h5.len]
    have := Fz.own (p := p) (q := q) h1 (hb _ (by simp)) h2 hl (fun i hi hi' => hF i hi hi') (toTs_mkF h5.plain)
    rw [← h3, chunk_flat h4] at this
    rw [h3] at this
    exact ⟨_, this⟩
theorem OTs.fz {p q : Nat → Prop} {g : H2} : ∀ {bs : List Nat} {xs : List X} {ts : List T} {j : Nat}, OTs g bs xs ts → (∀ b ∈ bs, p b) → ∃ F : Nat → Adr, ∀ i (hi : i < xs.length) (hi' : i < (mkF F j ts).length), Fz p q g xs[i] (mkF F j ts)[i]
  | _, _, _, _, .nil, _ => ⟨fun _ _ => undef, fun i hi => by simp at hi⟩
  | _, _, _, j, .cons (t := t) (ts := ts) h1 h2, hb => by
    obtain ⟨f, hf⟩ := h1.fz (p := p) (q := q) fun b h => hb b (by simp [h])
    obtain ⟨F, hF⟩ := h2.fz (p := p) (q := q) (j := j + 1) fun b h => hb b (by simp [h])
    have hc : ∀ (ts : List T) (k : Nat), j < k → mkF (fun i => if i = j then f else F i) k ts = mkF F k ts := by
      intro ts
      induction ts with
      | nil => intro k _; rfl
      | cons t ts ih => intro k hk; simp only [mkF]; rw [if_neg (by omega), ih (k + 1) (by omega)]
    have e1 : mkF (fun i => if i = j then f else F i) j (t :: ts) = mkG f t :: mkF F (j + 1) ts := by simp only [mkF, if_true, hc ts (j + 1) (by omega)]
    refine ⟨fun i => if i = j then f else F i, fun i hi hi' => ?_⟩
    simp only [e1]
    cases i with
    | zero => exact hf
    | succ i => simp only [List.getElem_cons_succ]; exact hF i (by simpa using hi) (by simpa [e1] using hi')
end
theorem OT.lent {bs : List Nat} {x : X} {t : T} (o : OT g bs x t) : ∃ f, Lent g x (mkG f t) := o.fz fun _ _ => trivial
theorem OTs.lent {bs : List Nat} {xs : List X} {ts : List T} (o : OTs g bs xs ts) : ∃ F : Nat → Adr, Lent g (.st xs) (.st (mkF F 0 ts)) := by
  obtain ⟨F, hF⟩ := o.fz (p := fun _ => True) (q := fun _ => True) (j := 0) fun _ _ => trivial
  exact ⟨F, .st (by rw [mkF_len, o.len]) fun i hi hi' => hF i hi hi'⟩
/-- Blocks that are different, and lie between two bounds. -/
def Bl (N M : Nat) (bs : List Nat) : Prop := bs.Nodup ∧ ∀ b ∈ bs, N ≤ b ∧ b < M
theorem Bl.nil {N M : Nat} : Bl N M [] := ⟨.nil, by simp⟩
theorem Bl.wide {N M N' M' : Nat} {bs : List Nat} (b : Bl N M bs) (hN : N' ≤ N) (hM : M ≤ M') : Bl N' M' bs := ⟨b.1, fun x hx => ⟨Nat.le_trans hN (b.2 x hx).1, Nat.lt_of_lt_of_le (b.2 x hx).2 hM⟩⟩
theorem Bl.append {N M M' : Nat} {bs bs' : List Nat} (b : Bl N M bs) (b' : Bl M M' bs') (hN : N ≤ M) (hM : M ≤ M') : Bl N M' (bs ++ bs') :=
  ⟨List.nodup_append.2 ⟨b.1, b'.1, fun x hx y hy e => by have := (b.2 x hx).2; have := (b'.2 y hy).1; omega⟩, fun x hx => by
    rcases List.mem_append.1 hx with hx | hx
    · have := b.2 x hx; omega
    · have := b'.2 x hx; omega⟩
theorem Bl.one {b M : Nat} (h : b < M) : Bl b M [b] := ⟨by simp, by simp [h]⟩
theorem OT.keep {g g' : H2} {bs : List Nat} {x : X} {t : T} (o : OT g bs x t) (l : g.le g') {N : Nat} (hb : Bl N (hn g .mk) bs) : OT g' bs x t := o.frame fun b h => l.2 b (hb.2 b h).2
theorem OTs.keep {g g' : H2} {bs : List Nat} {xs : List X} {ts : List T} (o : OTs g bs xs ts) (l : g.le g') {N : Nat} (hb : Bl N (hn g .mk) bs) : OTs g' bs xs ts := o.frame fun b h => l.2 b (hb.2 b h).2
/-- A new tree, as a cell; and as a struct. -/
def NewT (P : Program) (W0 : World) (f : FuncId) (xs : List X) (g : H2) (t : T) : Prop := WC2 P W0 f xs g fun x g' => g.le g' ∧ ∃ bs, OT g' bs x t ∧ Bl (hn g .mk) (hn g' .mk) bs
def NewS (P : Program) (W0 : World) (f : FuncId) (xs : List X) (g : H2) (ts : List T) : Prop := WC2 P W0 f xs g fun x g' => g.le g' ∧ ∃ ys bs, x = .st ys ∧ OTs g' bs ys ts ∧ Bl (hn g .mk) (hn g' .mk) bs

theorem OTs.raws {g : H2} : ∀ {vs : List Value}, (∀ v ∈ vs, plainS v = true) → OTs g [] (vs.map .raw) (vs.map .v)
  | [], _ => .nil
  | v :: vs, h => by
    have := OTs.cons (OT.raw (g := g) (h v List.mem_cons_self)) (OTs.raws (g := g) fun v hv => h v (List.mem_cons_of_mem _ hv))
    simpa using this
/-- A row of single plain cells, as a tree. -/
theorem OT.flat {g : H2} {N b : Nat} {vs : List Value} (hb : hg g b .mk = some ⟨1, vs.map .raw⟩) (hp : ∀ v ∈ vs, plainS v = true) : OT g [b] (.raw (.slice (some ⟨b, 0, none⟩) vs.length vs.length)) (.l 1 (vs.map fun v => [.v v])) := by
  have hf : (vs.map fun v => [T.v v]).flatten = vs.map .v := by
    clear hb hp
    induction vs with
    | nil => rfl
    | cons v vs ih => simp [ih]
  refine .row hb (by simp) (by simp) (by simp) ?_
  rw [hf]
  exact OTs.raws hp
theorem ints_T {zs : List Int} : ints zs = (zs.map (Value.int .i64)).map fun v => [T.v v] := by simp [ints, eI, Function.comp_def]
theorem OwnI.tree {N : Nat} {x : X} {zs : List Int} (o : OwnI N g x zs) : ∃ bs, OT g bs x (.l 1 (ints zs)) ∧ Bl N (hn g .mk) bs := by
  obtain ⟨hl, hc⟩ := o
  rcases hc with ⟨rfl, h0⟩ | ⟨b, rfl, h1, h2, h3⟩
  · have : zs = [] := List.eq_nil_of_length_eq_zero h0
    subst this
    exact ⟨[], .nil, .nil⟩
  · have e : zs.map cI = (zs.map (Value.int .i64)).map .raw := by simp [cI, Function.comp_def]
    rw [e] at h3
    have := OT.flat (N := N) h3 (fun v hv => by obtain ⟨z, _, rfl⟩ := List.mem_map.1 hv; rfl)
    rw [← ints_T, List.length_map] at this
    exact ⟨[b], this, (Bl.one h2).wide h1 (Nat.le_refl _)⟩
theorem OT.own {bs : List Nat} {x : X} {zs : List Int} (o : OT g bs x (.l 1 (ints zs))) {N : Nat} (hb : Bl N (hn g .mk) bs) : OwnI N g x zs := by
  generalize ht : T.l 1 (ints zs) = t at o
  cases o with
  | raw => cases ht
  | nil =>
    simp only [T.l.injEq] at ht
    have : zs = [] := by cases zs <;> simp_all [ints]
    subst this
    exact .nil
  | row h1 h2 h3 h4 h5 =>
    simp only [T.l.injEq] at ht
    obtain ⟨rfl, rfl⟩ := ht
    rename_i b n bs' cs
    simp at h2
    have hn' : zs.length = n := by rw [← h3]; simp [ints]
    subst hn'
    refine ⟨by simp, .inr ⟨b, rfl, (hb.2 b (by simp)).1, (hb.2 b (by simp)).2, ?_⟩⟩
    have hcs : cs = zs.map cI := by
      clear h1 h2 h3 h4 hb
      induction zs generalizing cs bs' with
      | nil => simp [ints] at h5; cases h5; rfl
      | cons z zs ih =>
        simp only [ints, eI, List.map_cons, List.flatten_cons, List.cons_append, List.nil_append] at h5
        cases h5 with
        | cons a b =>
          cases a
          rw [List.map_cons, ih b]; rfl
    rw [← hcs]; exact h1
attribute [go_sem] same_nil same_cons
end Go.Bi
