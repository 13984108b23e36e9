/- Deep values, part 7: rows of one's own that grow; rows that are given over to be read only; calls that only read. Nothing about the program stands here. -/
import Derived.Test.YtdakdjpndomdpaaBi6
set_option linter.unusedVariables false
set_option linter.unusedSimpArgs false
namespace Go.Bi
open Go.Ai (Hold Heap)
variable {P : Program} {W0 : World} {D : Nat → Option (List Nat)} {e : E2} {g h : H2} {Q : Q2} {K : KT}

/-- The later state has all that stood in the former one, as it was. -/
def H2.le (g g' : H2) : Prop := hn g .mk ≤ hn g' .mk ∧ ∀ b, b < hn g .mk → hg g' b .mk = hg g b .mk
theorem H2.le.refl (g : H2) : g.le g := ⟨Nat.le_refl _, fun _ _ => rfl⟩
theorem H2.le.trans {a b c : H2} (x : a.le b) (y : b.le c) : a.le c := ⟨Nat.le_trans x.1 y.1, fun q hq => (y.2 q (Nat.lt_of_lt_of_le hq x.1)).trans (x.2 q hq)⟩
theorem H2.le.n {g g' : H2} (x : g.le g') : hn g .mk ≤ hn g' .mk := x.1
theorem le_push {g g' : H2} {k : OB} (l : g.le g') : g.le (g'.push k) :=
  ⟨by rw [hn_push]; have := l.1; omega, fun b hb => by
    rw [hg_push]
    have : (b == hn g' .mk) = false := by have := l.1; simp; omega
    rw [this]; exact l.2 b hb⟩
theorem le_up {g g' : H2} {n : Nat} (l : g.le g') (hn' : hn g' .mk ≤ n) : g.le (g'.up n) := ⟨Nat.le_trans l.1 hn', fun b hb => l.2 b hb⟩
theorem le_up1 {g g' : H2} (l : g.le g') : g.le (g'.up (hn g' .mk + 1)) := le_up l (Nat.le_succ _)
theorem le_set {g g' : H2} {b : Nat} {k : OB} (l : g.le g') (hb : hn g .mk ≤ b) : g.le (g'.set b k) :=
  ⟨l.1, fun c hc => by
    rw [hg_set]
    have : (c == b) = false := by simp; omega
    rw [this]; exact l.2 c hc⟩
theorem le_kill {g g' : H2} {b : Nat} (l : g.le g') (hb : hn g .mk ≤ b) : g.le (g'.kill b) :=
  ⟨l.1, fun c hc => by
    rw [hg_kill]
    have : (c == b) = false := by simp; omega
    rw [this]; exact l.2 c hc⟩

/-! ### Rows of one's own -/
def blockOf : X → Option Nat
  | .raw (.slice (some a) _ _) => some a.block
  | _ => none
/-- A row of one's own, made since there were N blocks, all of whose cells are told; or none at all. -/
def Own (N : Nat) (g : H2) (v : X) (z n : Nat) (cs : List X) : Prop :=
  cs.length = n * z ∧ ((v = .raw (.slice none 0 0) ∧ n = 0) ∨ ∃ b, v = .raw (.slice (some ⟨b, 0, none⟩) n n) ∧ N ≤ b ∧ b < hn g .mk ∧ hg g b .mk = some ⟨z, cs⟩)
theorem Own.keep {N : Nat} {g g' : H2} {v : X} {z n : Nat} {cs : List X} (o : Own N g v z n cs) (l : g.le g') : Own N g' v z n cs := by
  obtain ⟨h1, h3⟩ := o
  refine ⟨h1, h3.imp_right ?_⟩
  rintro ⟨b, e1, e2, e3, e4⟩
  exact ⟨b, e1, e2, Nat.lt_of_lt_of_le e3 l.n, by rw [l.2 b e3]; exact e4⟩
theorem Own.nil {N : Nat} {g : H2} {z : Nat} : Own N g (.raw (.slice none 0 0)) z 0 [] := ⟨by simp, .inl ⟨rfl, rfl⟩⟩
theorem Own.new {N z n : Nat} {cs : List X} (hN : N ≤ hn g .mk) (hl : cs.length = n * z) : Own N (g.push ⟨z, cs⟩) (.raw (.slice (some ⟨hn g .mk, 0, none⟩) n n)) z n cs :=
  ⟨hl, .inr ⟨_, rfl, hN, by rw [hn_push]; omega, by rw [hg_push, show (hn g .mk == hn g .mk) = true by simp]; rfl⟩⟩
theorem Own.len {N z n : Nat} {cs : List X} {v : X} (o : Own N g v z n cs) : cs.length = n * z := o.1
theorem src_own {N z n : Nat} {v : X} {cs : List X} (o : Own N g v z n cs) : srcX g z v = some (n, cs) := by
  obtain ⟨h1, h2⟩ := o
  rcases h2 with ⟨rfl, rfl⟩ | ⟨b, rfl, h3, h4, h5⟩
  · have : cs = [] := List.eq_nil_of_length_eq_zero (by omega)
    subst this; rfl
  · have h5 : g.get b = some ⟨z, cs⟩ := h5
    simp only [srcX, h5, rd_all h1, Option.map_some]
theorem append_own {t u U z y N n m : Nat} {zs : List Value} {cs news : List X} {x v : X} (he : Ai.elt? P t = some (U, z + 1, y)) (hz : Ai.zr? P U = some zs) (hl : zs.length = z + 1) (hu : Ai.cls? P u = some .sl)
    (hx : Own N g x (z + 1) n cs) (hN0 : N ≤ hn g .mk) (hs : srcX g (z + 1) v = some (m, news)) (hlen : news.length = m * (z + 1)) (hok : news.all okX = true) (hn0 : (n + m) * (y + 1) ≤ Ai.most)
    (hk : ∀ v' g', Own N g' v' (z + 1) (n + m) (cs ++ news) → hn g .mk ≤ hn g' .mk → (∀ g0 : H2, hn g0 .mk ≤ N → g0.le g → g0.le g') → (∀ b, b < hn g .mk → blockOf x ≠ some b → hg g' b .mk = hg g b .mk) → kz K v' g' .mk) :
    az (biz P g .append [t, u] [x, v] .mk) K .mk := by
  obtain ⟨hlen0, hcase⟩ := hx
  have key : ∀ a, x = .raw (.slice a n n) → biz P g .append [t, u] [x, v] .mk = (if m = 0 then some (.raw (.slice a n n), g) else
        match a with
        | none => some (.raw (.slice (some ⟨g.n, 0, none⟩) m m), g.push ⟨z + 1, news⟩)
        | some a => match g.get a.block with
          | some k => if k.z = z + 1 ∧ a.off = 0 then (rdL k.cs 0 (n * (z + 1))).map fun olds => (.raw (.slice (some ⟨g.n, 0, none⟩) (n + m) (n + m)), (g.kill a.block).push ⟨z + 1, olds ++ news⟩) else none
          | none => none) := by
    intro a ha
    subst ha
    simp only [biz, builtinX, hu, appendX, he, hs, hz]
    rw [if_pos ⟨hl, hn0, hok⟩]
    rfl
  have hmv : ∀ b : Nat, (b == b) = true := by simp
  rcases hcase with ⟨rfl, rfl⟩ | ⟨b, rfl, hNb, hbn, hb⟩
  · have hcs : cs = [] := List.eq_nil_of_length_eq_zero (by omega)
    subst hcs
    rw [key none rfl]
    by_cases hm : m = 0
    · subst hm
      have hnews : news = [] := List.eq_nil_of_length_eq_zero (by omega)
      subst hnews
      rw [if_pos rfl]
      exact hk _ _ ⟨by simp, .inl ⟨rfl, rfl⟩⟩ (Nat.le_refl _) (fun g0 _ l => l) fun _ _ _ => rfl
    · rw [if_neg hm]
      refine hk _ _ ⟨by simpa using hlen, .inr ⟨g.n, ?_, hN0, ?_, ?_⟩⟩ ?_ ?_ ?_
      · simp
      · rw [hn_push]; exact Nat.lt_succ_self _
      · rw [hg_push]; show Go.Bi.hk (g.n == g.n) _ _ _ _ = _; rw [hmv]; rfl
      · rw [hn_push]; omega
      · intro g0 _ l0; exact le_push l0
      · intro b' hb' _
        rw [hg_push, show (b' == hn g .mk) = false by simp; omega]; rfl
  · have hb' : g.get b = some ⟨z + 1, cs⟩ := hb
    rw [key _ rfl]
    by_cases hm : m = 0
    · subst hm
      have hnews : news = [] := List.eq_nil_of_length_eq_zero (by omega)
      subst hnews
      rw [if_pos rfl]
      exact hk _ _ ⟨by simpa using hlen0, .inr ⟨b, rfl, hNb, hbn, by simpa using hb⟩⟩ (Nat.le_refl _) (fun g0 _ l => l) fun _ _ _ => rfl
    · rw [if_neg hm]
      simp only [hb']
      rw [if_pos ⟨trivial, trivial⟩, rd_all hlen0]
      have hne : (b == hn g .mk) = false := by simp; omega
      refine hk _ _ ⟨by simp [hlen0, hlen, Nat.add_mul], .inr ⟨g.n, rfl, ?_, ?_, ?_⟩⟩ ?_ ?_ ?_
      · unfold hn at hbn; omega
      · rw [hn_push, hn_kill]; exact Nat.lt_succ_self _
      · rw [hg_push, hn_kill]; show Go.Bi.hk (g.n == g.n) _ _ _ _ = _; rw [hmv]; rfl
      · rw [hn_push, hn_kill]; omega
      · intro g0 hN l0; exact le_push (le_kill l0 (by omega))
      · intro b' hb2 hne'
        have hbb : (b' == b) = false := by
          have : ¬ b' = b := fun e => hne' (by rw [e]; rfl)
          simp [this]
        rw [hg_push, hn_kill, show (b' == hn g .mk) = false by simp; omega, hk_f, hg_kill, hbb]; rfl

/-! ### Where things stand -/
inductive AllT (p : Nat → Prop) : Adr → T → Prop
  | v {f : Adr} {x : Value} : AllT p f (.v x)
  | l {f : Adr} {z : Nat} {es : List (List T)} : (∀ a n c, f [] = .slice (some a) n c → p a.block) → (∀ i j t, ((es[i]?).bind (·[j]?)) = some t → AllT p (below f i j) t) → AllT p f (.l z es)
inductive AllB (p : Nat → Prop) : X → Prop
  | raw {x : Value} : AllB p (.raw x)
  | sl {f : Adr} {z : Nat} {es : List (List T)} : AllT p f (.l z es) → AllB p (.sl f z es)
  | pr {a : Value} {f : Adr} {ts : List T} : (∀ q, a = .pointer (some q) → p q.block) → (∀ j t, ts[j]? = some t → AllT p (under f j) t) → AllB p (.pr a f ts)
  | st {xs : List X} : (∀ x ∈ xs, AllB p x) → AllB p (.st xs)
  | tp {xs : List X} : (∀ x ∈ xs, AllB p x) → AllB p (.tp xs)
theorem AllT.imp {p q : Nat → Prop} (hpq : ∀ b, p b → q b) {f : Adr} {t : T} (a : AllT p f t) : AllT q f t := by
  induction a with
  | v => exact .v
  | l h1 _ ih => exact .l (fun a n c e => hpq _ (h1 a n c e)) ih
theorem AllB.imp {p q : Nat → Prop} (hpq : ∀ b, p b → q b) {x : X} (a : AllB p x) : AllB q x := by
  induction a with
  | raw => exact .raw
  | sl h1 => exact .sl (h1.imp hpq)
  | pr h1 h2 => exact .pr (fun q e => hpq _ (h1 q e)) fun j t ht => (h2 j t ht).imp hpq
  | st _ ih => exact .st ih
  | tp _ ih => exact .tp ih
theorem AllT.true {f : Adr} {t : T} {h : Heap} {g : H2} (r : Rep h g f t) : AllT (fun _ => True) f t := by
  induction r with
  | v => exact .v
  | l a c h1 h2 h3 h4 ih => exact .l (fun _ _ _ _ => trivial) ih
theorem Rep.weaken {h : Heap} {g g' : H2} {f : Adr} {t : T} {p : Nat → Prop} (r : Rep h g f t) (a : AllT p f t) (hw : ∀ b, p b → g.get b = none → g'.get b = none) : Rep h g' f t := by
  induction r with
  | v h1 => exact .v h1
  | l q c h1 h2 h3 h4 ih =>
    cases a with
    | l a1 a2 =>
      refine .l q c h1 h2 (h3.imp_right ?_) fun i j t ht => ih i j t ht (a2 i j t ht)
      rintro ⟨b, off, w, k, cs, rfl, e2, e3, e4⟩
      exact ⟨b, off, w, k, cs, rfl, e2, hw b (a1 _ _ _ h1) e3, e4⟩
theorem Ok.weaken {h : Heap} {g g' : H2} {x : X} {p : Nat → Prop} (r : Ok h g x) (a : AllB p x) (hw : ∀ b, p b → g.get b = none → g'.get b = none) : Ok h g' x := by
  induction r with
  | raw => exact .raw
  | sl h1 => cases a with | sl a1 => exact .sl (h1.weaken a1 hw)
  | pr h1 h2 h3 h0 h4 h5 => cases a with | pr a1 a2 => exact .pr h1 (hw _ (a1 _ rfl) h2) h3 h0 h4 fun j t ht => (h5 j t ht).weaken (a2 j t ht) hw
  | st _ ih => cases a with | st a1 => exact .st fun x hx => ih x hx (a1 x hx)
  | tp _ ih => cases a with | tp a1 => exact .tp fun x hx => ih x hx (a1 x hx)
theorem Ok.all {h : Heap} {g : H2} {x : X} (r : Ok h g x) : AllB (fun _ => True) x := by
  induction r with
  | raw => exact .raw
  | sl h1 => exact .sl (AllT.true h1)
  | pr h1 h2 h3 h0 h4 h5 => exact .pr (fun _ _ => trivial) fun j t ht => AllT.true (h5 j t ht)
  | st _ ih => exact .st ih
  | tp _ ih => exact .tp ih

/-! ### Rows that are given over to be read only -/
/-- The second is the first, with the rows of one's own in it (each of which meets p) told by what they hold; what was so told stands where q. -/
inductive Fz (p q : Nat → Prop) (g : H2) : X → X → Prop
  | raw {v : Value} : Fz p q g (.raw v) (.raw v)
  | nil {z : Nat} : Fz p q g (.raw (.slice none 0 0)) (.sl (fun _ => .slice none 0 0) z [])
  | own {b n z : Nat} {cs cs' : List X} {ts : List T} : g.get b = some ⟨z, cs⟩ → p b → cs.length = n * z → cs'.length = cs.length → (∀ i (hi : i < cs.length) (hi' : i < cs'.length), Fz p q g cs[i] cs'[i]) → toTs cs' = some ts →
      Fz p q g (.raw (.slice (some ⟨b, 0, none⟩) n n)) (.sl (litA b n z cs') z (chunk z n ts))
  | sl {f : Adr} {z : Nat} {es : List (List T)} : AllB q (.sl f z es) → Fz p q g (.sl f z es) (.sl f z es)
  | st {xs ys : List X} : ys.length = xs.length → (∀ i (hi : i < xs.length) (hi' : i < ys.length), Fz p q g xs[i] ys[i]) → Fz p q g (.st xs) (.st ys)
  | tp {xs ys : List X} : ys.length = xs.length → (∀ i (hi : i < xs.length) (hi' : i < ys.length), Fz p q g xs[i] ys[i]) → Fz p q g (.tp xs) (.tp ys)
theorem ers_of {xs ys : List X} (hl : ys.length = xs.length) (h : ∀ i (hi : i < xs.length) (hi' : i < ys.length), er xs[i] = er ys[i]) : ys.map er = xs.map er := by
  apply List.ext_getElem (by simp [hl])
  intro i h1 h2
  simp at h1 h2
  simp [h i h2 h1]
theorem Fz.er {p q : Nat → Prop} {g : H2} {x y : X} (z : Fz p q g x y) : Bi.er y = Bi.er x := by
  induction z with
  | raw => rfl
  | nil => rfl
  | own => rfl
  | sl => rfl
  | st hl _ ih => simp only [Bi.er, ers_eq]; rw [ers_of hl fun i hi hi' => (ih i hi hi').symm]
  | tp hl _ ih => simp only [Bi.er, ers_eq]; rw [ers_of hl fun i hi hi' => (ih i hi hi').symm]
theorem lit_ok {g1 : H2} {h : Heap} {b n z : Nat} {cs cs' : List X} {ts : List T} (hb : b < h.n) (hg1 : g1.get b = none) (hh : h.get b = some ⟨true, z, cs.map er⟩) (hl : cs.length = n * z) (hl' : cs'.length = cs.length)
    (he : cs'.map er = cs.map er) (o : ∀ x ∈ cs', Ok h g1 x) (ht : toTs cs' = some ts) : Ok h g1 (.sl (litA b n z cs') z (chunk z n ts)) := by
  obtain ⟨t1, t2⟩ := toTs_get ht
  refine .sl (.l (some ⟨b, 0, none⟩) n (by simp only [litA, chunk_len]) (chunk_all (by rw [t1, hl', hl])) (.inr ⟨b, 0, true, z, cs.map er, rfl, hb, hg1, hh, fun _ => rfl, Nat.zero_le _, fun i j hi hj => ?_⟩) fun i j t ht => ?_)
  · rw [chunk_len] at hi
    have hlt : i * z + j < cs'.length := by
      have : i * z + z ≤ n * z := by rw [← Nat.succ_mul]; exact Nat.mul_le_mul_right z hi
      omega
    rw [Nat.zero_add, ← he, List.getElem?_map, List.getElem?_eq_getElem hlt]
    simp only [Option.map_some, litA, List.getD_eq_getElem?_getD, List.getElem?_eq_getElem hlt, Option.getD_some]
    cases cs'[i * z + j] <;> rfl
  · obtain ⟨c1, c2⟩ := chunk_get ht
    obtain ⟨x, x1, x2⟩ := t2 _ _ c2
    refine toT_sound (o x (List.mem_of_getElem? x1)) x2 fun p => ?_
    simp only [below, litA, List.getD_eq_getElem?_getD, x1, Option.getD_some]
/-- What is given over is still as told when its rows are no more one's own. -/
theorem Fz.ok {p q : Nat → Prop} {g g1 : H2} {h : Heap} (s : S g h) (hw : ∀ b, q b → g.get b = none → g1.get b = none) (hp : ∀ b, p b → g1.get b = none) {x y : X} (fz : Fz p q g x y) : Ok h g x → Ok h g1 y := by
  induction fz with
  | raw => intro _; exact .raw
  | nil => intro _; exact .sl (.l none 0 rfl (by simp) (.inl ⟨rfl, rfl⟩) (by simp))
  | own h1 h2 h3 h4 h5 h6 ih =>
    intro _
    rename_i b n z cs cs' ts
    obtain ⟨s1, s2, s3⟩ := s.row _ _ h1
    refine lit_ok s1 (hp _ h2) s2 h3 h4 (ers_of h4 fun i hi hi' => ((h5 i hi hi').er).symm) (fun x hx => ?_) h6
    obtain ⟨i, hi, rfl⟩ := List.getElem_of_mem hx
    exact ih i (by omega) hi (s3 _ (List.getElem_mem _))
  | sl a => intro o; exact o.weaken a hw
  | st hl _ ih =>
    intro o
    cases o with
    | st o =>
      refine .st fun x hx => ?_
      obtain ⟨i, hi, rfl⟩ := List.getElem_of_mem hx
      exact ih i (by omega) hi (o _ (List.getElem_mem _))
  | tp hl _ ih =>
    intro o
    cases o with
    | tp o =>
      refine .tp fun x hx => ?_
      obtain ⟨i, hi, rfl⟩ := List.getElem_of_mem hx
      exact ih i (by omega) hi (o _ (List.getElem_mem _))
theorem toT_all {r : Nat → Prop} {x : X} {t : T} (a : AllB r x) (ht : toT x = some t) : AllT r (fun p => pathX p x) t := by
  cases a with
  | raw => simp only [toT] at ht; split at ht <;> cases ht; exact .v
  | sl a => simp only [toT, Option.some.injEq] at ht; subst ht; exact a
  | _ => simp [toT] at ht
theorem Fz.all {p q r : Nat → Prop} {g : H2} (hpr : ∀ b, p b → r b) (hqr : ∀ b, q b → r b) {x y : X} (fz : Fz p q g x y) : AllB r y := by
  induction fz with
  | raw => exact .raw
  | nil => exact .sl (.l (by simp) (by simp))
  | own h1 h2 h3 h4 h5 h6 ih =>
    rename_i b n z cs cs' ts
    obtain ⟨t1, t2⟩ := toTs_get h6
    refine .sl (.l (fun a n c e => ?_) fun i j t ht => ?_)
    · simp only [litA] at e; cases e; exact hpr _ h2
    · obtain ⟨c1, c2⟩ := chunk_get ht
      obtain ⟨x, x1, x2⟩ := t2 _ _ c2
      obtain ⟨hi, hx⟩ := List.getElem?_eq_some_iff.1 x1
      have hh := ih (i * z + j) (by omega) hi
      rw [hx] at hh
      have e1 : Bi.below (litA b n z cs') i j = fun p => pathX p x := by
        funext p; simp only [Bi.below, litA, List.getD_eq_getElem?_getD, x1, Option.getD_some]
      rw [e1]
      exact toT_all hh x2
  | sl a => exact a.imp hqr
  | st hl _ ih =>
    refine .st fun x hx => ?_
    obtain ⟨i, hi, rfl⟩ := List.getElem_of_mem hx
    exact ih i (by omega) hi
  | tp hl _ ih =>
    refine .tp fun x hx => ?_
    obtain ⟨i, hi, rfl⟩ := List.getElem_of_mem hx
    exact ih i (by omega) hi
end Go.Bi
