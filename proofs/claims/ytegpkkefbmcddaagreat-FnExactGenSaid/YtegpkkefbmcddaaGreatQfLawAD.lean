/- Own lemmas that the theorem of this claim needs: the abstract machine and walks of functions. -/
import Derived.Test.YtegpkkefbmcddaaGreatQfLawAC
set_option linter.unusedSimpArgs false
set_option linter.unusedVariables false
section
namespace Go.Ai
variable {P : Program} {W0 : World}
inductive PT where
 | nil
 | op (i : Nat) (pd : List Nat) (r : PT)
 | alt (a b : PT)
def PT.heads : PT → List Nat
 | .nil => []
 | .op i _ _ => [i]
 | .alt a b => a.heads ++ b.heads
def PT.lin : PT → List Nat
 | .nil => []
 | .op i _ r => i :: r.lin
 | .alt a _ => a.lin
def ES (P : Program) (W0 : World) (l : List Oper) : PT → Env → Heap → QT → Prop
 | .nil, e, h, Q => Q .normal e h
 | .op i pd r, e, h, Q => match l[i]? with
  | none => False
  | some o => guarded (guardOf l e o.guard) (H8 P W0 e h o.op fun v h' => (∀ q ∈ pd, stays P l q (e.putO o.dst v) h') ∧ ES P W0 l r (e.putO o.dst v) h' Q) (ES P W0 l r (e.putO o.dst undef) h Q)
 | .alt a b, e, h, Q => ES P W0 l a e h Q ∧ ES P W0 l b e h Q
def descT (l : List Oper) (H : List Nat) : List Nat → List Nat → Bool
 | _, [] => true
 | D, k :: r => (H.contains k || (EM l k).any (fun j => D.contains j)) && descT l H (k :: D) r
def chkT (P : Program) (l : List Oper) : List Nat → List Nat → PT → Bool
  | pre, _, .nil => (List.range l.length).all fun i => pre.contains i
  | pre, H, .op i pd r => !(pre.contains i) && (decide (i < l.length) && ((EM l i).all (fun j => pre.contains j) && ((!effO P l i || (descT l H [i] r.lin &&
      (pre.all (fun q => !HE P l q || (pd.contains q || (Sz l pre (EM l i)).contains q)) &&
       pd.all (fun q => (looks l q).all fun t => (i :: pre).all fun j => Ba l j != some t || (EM l q).contains j)))) && chkT P l (i :: pre) [] r)))
  | pre, H, .alt a b => !a.heads.isEmpty && (!b.heads.isEmpty && ((a.heads ++ b.heads).all (fun i => effO P l i && !(pre.contains i)) && (chkT P l pre (H ++ (a.heads ++ b.heads)) a && chkT P l pre (H ++ (a.heads ++ b.heads)) b)))
def G5 (P : Program) (l : List Oper) (p : PT) : Bool := JQ l && chkT P l [] [] p
theorem Hq {l : List Oper} : ∀ (t : PT) (pre H : List Nat), chkT P l pre H t = true → ∀ i, i < l.length → i ∈ pre ∨ i ∈ t.lin
 | .nil, pre, H, c, i, hi => by
  simp only [chkT] at c
  have := List.all_eq_true.1 c i (by simpa using hi)
  exact .inl (by simpa using this)
 | .op k pd r, pre, H, c, i, hi => by
  simp only [chkT, Bool.and_eq_true] at c
  rcases Hq r (k :: pre) [] c.2.2.2.2 i hi with h | h
  ·rcases List.mem_cons.1 h with rfl | h
   ·exact .inr (by simp [PT.lin])
   ·exact .inl h
  ·exact .inr (by simp [PT.lin, h])
 | .alt a b, pre, H, c, i, hi => by
  simp only [chkT, Bool.and_eq_true] at c
  exact Hq a _ _ c.2.2.2.1 i hi
theorem PT.first {l : List Oper} : ∀ (t : PT) (pre H : List Nat), chkT P l pre H t = true → t.heads ≠ [] → ∃ k pd r H', t.lin = k :: r.lin ∧ chkT P l pre H' (.op k pd r) = true ∧ (∀ x ∈ H', x ∈ H ∨ x ∈ t.heads) ∧ k ∈ t.heads
 | .nil, pre, H, c, hne => absurd rfl hne
 | .op k pd r, pre, H, c, hne => ⟨k, pd, r, H, rfl, c, fun x hx => .inl hx, by simp [PT.heads]⟩
 | .alt a b, pre, H, c, hne => by
  simp only [chkT, Bool.and_eq_true] at c
  obtain ⟨k, pd, r, H', h1, h2, h3, h4⟩ := PT.first a _ _ c.2.2.2.1 (by simpa using c.1)
  refine ⟨k, pd, r, H', h1, h2, fun x hx => ?_, by simp [PT.heads, h4]⟩
  rcases h3 x hx with h | h
  ·rcases List.mem_append.1 h with h | h
   ·exact .inl h
   ·exact .inr (by simpa [PT.heads] using h)
  ·exact .inr (by simp [PT.heads, h])
theorem PT.pick {l : List Oper} {e : Env} {h : Heap} {Q : QT} {i : Nat} : ∀ (t : PT) (pre H : List Nat), chkT P l pre H t = true → ES P W0 l t e h Q → i ∈ t.heads → ∃ pd r H', chkT P l pre H' (.op i pd r) = true ∧ ES P W0 l (.op i pd r) e h Q ∧ (effO P l i = true ∨ t = .op i pd r)
 | .nil, pre, H, c, hr, hi => by cases hi
 | .op k pd r, pre, H, c, hr, hi => by
  simp only [PT.heads, List.mem_cons, List.not_mem_nil, or_false] at hi
  subst hi
  exact ⟨pd, r, H, c, hr, .inr rfl⟩
 | .alt a b, pre, H, c, hr, hi => by
  simp only [chkT, Bool.and_eq_true] at c
  have hE : effO P l i = true := by
   have := List.all_eq_true.1 c.2.2.1 i hi
   simp only [Bool.and_eq_true] at this
   exact this.1
  rcases List.mem_append.1 hi with hi | hi
  ·obtain ⟨pd, r, H', h1, h2, _⟩ := PT.pick a _ _ c.2.2.2.1 hr.1 hi
   exact ⟨pd, r, H', h1, h2, .inl hE⟩
  ·obtain ⟨pd, r, H', h1, h2, _⟩ := PT.pick b _ _ c.2.2.2.2 hr.2 hi
   exact ⟨pd, r, H', h1, h2, .inl hE⟩
theorem Jg {l : List Oper} {S : Nat → Prop} {H : List Nat} (hc : ∀ i, S i → ∀ j ∈ EM l i, S j) (hH : ∀ j ∈ H, ¬ S j) : ∀ (r D : List Nat), (∀ j ∈ D, ¬ S j) → descT l H D r = true → ∀ k ∈ r, k ∈ H ∨ ¬ ∀ j ∈ EM l k, S j
 | [], D, _, _, k, hk => by cases hk
 | q :: r, D, hD, hd, k, hk => by
  simp only [descT, Bool.and_eq_true, Bool.or_eq_true] at hd
  have hq : q ∈ H ∨ ¬ ∀ j ∈ EM l q, S j := by
   rcases hd.1 with h | h
   ·exact .inl (by simpa using h)
   ·refine .inr fun hall => ?_
    obtain ⟨j, hj, hjD⟩ := List.any_eq_true.1 h
    exact hD j (by simpa using hjD) (hall j hj)
  have hqS : ¬ S q := by
   rcases hq with h | h
   ·exact hH q h
   ·exact fun hs => h (hc _ hs)
  rcases List.mem_cons.1 hk with rfl | hk
  ·exact hq
  ·refine Jg hc hH r (q :: D) ?_ hd.2 k hk
   intro j hj
   rcases List.mem_cons.1 hj with rfl | hj
   ·exact hqS
   ·exact hD j hj
structure EK (P : Program) (W0 : World) (l : List Oper) (nt : Nat) (e0 : Env) (Q : QT) (ι0 : Ren) (S : Nat → Prop) (dn : List Nat) (rest : PT) (val : Nat → Value) (ec es : Env) (h : Heap) (a : Act) (w : World) : Prop where
 closed : ∀ i, S i → ∀ j ∈ EM l i, S j
 sub : ∀ i, S i → i ∈ dn
 effs : ∀ i ∈ dn, effO P l i = true → S i
 topo : ∀ d1 q d2, dn = d1 ++ q :: d2 → ∀ j ∈ EM l q, j ∈ d2
 inb : ∀ i ∈ dn, i < l.length
 chk : chkT P l dn [] rest = true
 cur : Ue l (· ∈ dn) val e0 ec
 curS : Ue l S val e0 es
 pend : ∀ q ∈ dn, ¬ S q → ZL P l q val e0 h
 run : ES P W0 l rest ec h Q
 sim : ∃ ι, ι0.le ι ∧ CU P W0 ι h w ∧ RE nt ι es a
section
variable {l : List Oper} {nt : Nat} {e0 : Env} {Q : QT} {ι0 : Ren} {S : Nat → Prop} {dn : List Nat} {rest : PT} {val : Nat → Value} {ec es : Env} {h : Heap} {a : Act} {w : World}
theorem EK.before (I : EK P W0 l nt e0 Q ι0 S dn rest val ec es h a w) {q : Nat} (hq : q ∈ dn) : ∀ j ∈ EM l q, j ∈ dn := by
 obtain ⟨d1, d2, rfl⟩ := List.append_of_mem hq
 intro j hj
 have := I.topo d1 q d2 rfl j hj
 simp [this]
theorem EK.head (I : EK P W0 l nt e0 Q ι0 S dn rest val ec es h a w) {i : Nat} {pd : List Nat} {r : PT} {H : List Nat} (c : chkT P l dn H (.op i pd r) = true) :
  i ∉ dn ∧ i < l.length ∧ (∀ j ∈ EM l i, j ∈ dn) ∧ (effO P l i = true → descT l H [i] r.lin = true ∧
   (∀ q ∈ dn, HE P l q = true → q ∈ pd ∨ q ∈ Sz l dn (EM l i)) ∧ ∀ q ∈ pd, ∀ t ∈ looks l q, ∀ j, j = i ∨ j ∈ dn → Ba l j = some t → j ∈ EM l q) ∧ chkT P l (i :: dn) [] r = true := by
 simp only [chkT, Bool.and_eq_true] at c
 obtain ⟨c1, c2, c3, c4, c5⟩ := c
 refine ⟨by simpa using c1, by simpa using c2, fun j hj => by simpa using List.all_eq_true.1 c3 j hj, fun he => ?_, c5⟩
 rw [he] at c4
 simp only [Bool.not_true, Bool.false_or, Bool.and_eq_true] at c4
 obtain ⟨d1, d2, d3⟩ := c4
 refine ⟨d1, fun q hq hs => ?_, fun q hq t ht j hj hd => ?_⟩
 ·have := List.all_eq_true.1 d2 q hq
  simp [hs] at this
  exact this
 ·have := List.all_eq_true.1 (List.all_eq_true.1 (List.all_eq_true.1 d3 q hq) t ht) j (by simpa using hj)
  simp [hd] at this
  exact this
theorem EK.advance (g : JQ l = true) (I : EK P W0 l nt e0 Q ι0 S dn rest val ec es h a w) {i : Nat} {pd : List Nat} {r : PT} (hr : rest = .op i pd r) (hq : effO P l i = false) :
    ∃ val' ec', EK P W0 l nt e0 Q ι0 S (i :: dn) r val' ec' es h a w := by
  obtain ⟨h1, h2, h3, _, h5⟩ := I.head (by have := I.chk; rw [hr] at this; exact this)
  have hrun := I.run
  rw [hr] at hrun
  simp only [ES] at hrun
  have ho : l[i]? = some l[i] := List.getElem?_eq_getElem h2
  generalize l[i] = o at ho
  rw [ho] at hrun
  simp only at hrun
  have hquiet : CE P o.op = true := by simp [effO, ho] at hq; exact hq
  have hag : FM l i val e0 ec := Cp g I.cur h3 fun j hj hb => h1 (I.before hj i hb)
  have hS : ¬ S i := fun hs => h1 (I.sub i hs)
  have hself : i ∉ EM l i := fun hb => h1 (h3 i hb)
  -- in both ways: a value, and what stays
  have fin : ∀ (v : Value), (∃ gg, guardOf l ec o.guard = some gg ∧ (gg = true → C4 P ec h o.op = some (v, h)) ∧ (gg = false → v = undef)) → ES P W0 l r (ec.putO o.dst v) h Q →
      ∃ val' ec', EK P W0 l nt e0 Q ι0 S (i :: dn) r val' ec' es h a w := by
    intro v hf hrn
    have hv : ∀ j, j ≠ i → (if j = i then v else val j) = val j := fun j hj => if_neg hj
    have hvd : ∀ j, j ∈ dn → (if j = i then v else val j) = val j := fun j hj => hv j fun e => h1 (e ▸ hj)
    refine ⟨fun j => if j = i then v else val j, ec.putO o.dst v, ?_⟩
    refine ⟨I.closed, fun j hj => List.mem_cons_of_mem _ (I.sub j hj), ?_, ?_, ?_, h5, ?_, Ta (fun j hj => hvd j (I.sub j hj)) I.curS, ?_, hrn, I.sim⟩
    · intro j hj he
      rcases List.mem_cons.1 hj with rfl | hj
      · rw [hq] at he; cases he
      · exact I.effs j hj he
    · intro d1 q d2 hd j hj
      cases d1 with
      | nil => simp at hd; obtain ⟨rfl, rfl⟩ := hd; exact h3 j hj
      | cons x d1 => simp at hd; exact I.topo d1 q d2 hd.2 j hj
    · intro j hj
      rcases List.mem_cons.1 hj with rfl | hj
      · exact h2
      · exact I.inb j hj
    · exact Hc (fun j => by simp) (FL g ho h1 I.cur hvd (by simp))
    · intro q hqd hqs
      rcases List.mem_cons.1 hqd with rfl | hqd
      · intro o' ho' e he
        rw [ho] at ho'; cases ho'
        have he2 := Ea (fun j hj => hv j fun e => hself (by rw [e] at hj; exact hj)) he
        obtain ⟨s1, s2⟩ := Fj ho (GG he2 hag)
        obtain ⟨gg, g1, g2, g3⟩ := hf
        exact ⟨gg, by rw [s1]; exact g1, fun hg => by rw [Fi _ s2]; simpa using g2 hg, fun hg => by simpa using g3 hg⟩
      · intro o' ho' e he
        have he2 := Ea (fun j hj => hvd j (I.before hqd j hj)) he
        obtain ⟨gg, g1, g2, g3⟩ := I.pend q hqd hqs o' ho' e he2
        have : (if q = i then v else val q) = val q := hvd q hqd
        exact ⟨gg, g1, fun hg => by simp only [this]; exact g2 hg, fun hg => by simp only [this]; exact g3 hg⟩
  unfold guarded at hrun
  split at hrun
  · rename_i gg hg
    cases gg with
    | false => exact fin undef ⟨false, hg, fun hh => (by cases hh), fun _ => rfl⟩ (hrun.2 rfl)
    | true =>
      replace hrun := hrun.1 rfl
      unfold H8 at hrun
      rw [GZ hquiet] at hrun
      simp only [andThen] at hrun
      split at hrun
      · rename_i v h' hv
        obtain ⟨rfl, _⟩ := Ey hquiet hv
        exact fin v ⟨true, hg, fun _ => hv, fun hh => (by cases hh)⟩ hrun.2
      · cases hrun
  · cases hrun
theorem EK.ahead (g : JQ l = true) : ∀ (rest : PT) (dn : List Nat) (val : Nat → Value) (ec : Env), EK P W0 l nt e0 Q ι0 S dn rest val ec es h a w →
    ∃ dn' rest' val' ec', EK P W0 l nt e0 Q ι0 S dn' rest' val' ec' es h a w ∧ ∀ i pd r, rest' = .op i pd r → effO P l i = true
  | .nil, dn, val, ec, I => ⟨dn, .nil, val, ec, I, fun _ _ _ hh => by cases hh⟩
  | .alt a b, dn, val, ec, I => ⟨dn, .alt a b, val, ec, I, fun _ _ _ hh => by cases hh⟩
  | .op i pd r, dn, val, ec, I => by
    cases hq : effO P l i with
    | true => exact ⟨dn, _, val, ec, I, fun i' pd' r' hh => by cases hh; exact hq⟩
    | false =>
      obtain ⟨val', ec', I'⟩ := I.advance g rfl hq
      exact EK.ahead g r _ _ _ I'
theorem EK.heads (I : EK P W0 l nt e0 Q ι0 S dn rest val ec es h a w) (hhd : ∀ i pd r, rest = .op i pd r → effO P l i = true) {i : Nat} (hi : i < l.length) (hd : i ∉ dn) (hb : ∀ j ∈ EM l i, S j) : i ∈ rest.heads := by
 have hir := (Hq _ _ _ I.chk i hi).resolve_left hd
 cases hrest : rest with
 | nil => rw [hrest] at hir; cases hir
 | op k pd r =>
  rw [hrest] at hir
  have hc := I.chk
  rw [hrest] at hc
  obtain ⟨k1, k2, k3, k4, k5⟩ := I.head hc
  rcases List.mem_cons.1 hir with rfl | hir
  ·simp [PT.heads]
  ·have hnk : ¬ S k := fun hh => k1 (I.sub k hh)
   rcases Jg I.closed (H := []) (by simp) r.lin [k] (by simpa using hnk) (k4 (hhd k pd r hrest)).1 i hir with h | h
   ·cases h
   ·exact (h hb).elim
 | alt x y =>
  have hc := I.chk
  rw [hrest] at hir hc
  have hc2 := hc
  simp only [chkT, Bool.and_eq_true] at hc2
  have hne : (PT.alt x y).heads ≠ [] := by
   intro h
   simp only [PT.heads, List.append_eq_nil_iff] at h
   simp [h.1] at hc2
  have hall : ∀ z ∈ (PT.alt x y).heads, effO P l z = true ∧ z ∉ dn := fun z hz => by
   have := List.all_eq_true.1 hc2.2.2.1 z hz
   simpa using this
  obtain ⟨k, pd, r, H', h1, h2, h3, h4⟩ := PT.first _ _ _ hc hne
  obtain ⟨k1, k2, k3, k5, k6⟩ := I.head h2
  rw [h1] at hir
  have hSn : ∀ z ∈ (PT.alt x y).heads, ¬ S z := fun z hz hs => (hall z hz).2 (I.sub z hs)
  have hH : ∀ z ∈ H', z ∈ (PT.alt x y).heads := fun z hz => by
   rcases h3 z hz with h | h
   ·cases h
   ·exact h
  rcases List.mem_cons.1 hir with rfl | hir
  ·exact h4
  ·rcases Jg I.closed (H := H') (fun z hz => hSn z (hH z hz)) r.lin [k] (by simpa using hSn k h4) (k5 (hall k h4).1).1 i hir with h | h
   ·exact hH i h
   ·exact (h hb).elim
theorem EK.step {ops : Array Oper} {QQ : Exit → Act → World → Prop} (hl : l = ops.toList) (hoks : ∀ o ∈ l, E1 nt o = true) (g : JQ l = true) (I : EK P W0 l nt e0 Q ι0 S dn rest val ec es h a w)
    (hhd : ∀ i pd r, rest = .op i pd r → effO P l i = true) {i : Nat} (hi : i < l.length) (hni : ¬ S i) (hb : ∀ j ∈ EM l i, S j) :
    wpOp P ops QQ i (fun a' w' => ∃ dn' rest' val' ec' es' h', EK P W0 l nt e0 Q ι0 (fun j => j = i ∨ S j) dn' rest' val' ec' es' h' a' w') a w := by
  have ho : l[i]? = some l[i] := List.getElem?_eq_getElem hi
  have hok := hoks l[i] (List.getElem_mem hi)
  generalize l[i] = o at ho hok
  have Av : ops[i]? = some o := by rw [hl, Array.getElem?_toList] at ho; exact ho
  obtain ⟨ι, hle, hs, hre⟩ := I.sim
  have hclosed : ∀ j, (j = i ∨ S j) → ∀ k ∈ EM l j, k = i ∨ S k := by
    rintro j (rfl | hj) k hk
    · exact .inr (hb k hk)
    · exact .inr (I.closed j hj k hk)
  have hagS : FM l i val e0 es := Cp g I.curS hb fun j hj hbj => hni (I.closed j hj i hbj)
  by_cases hd : i ∈ dn
  · -- planned ahead: its value is known
    obtain ⟨gg, g1, g2, g3⟩ := I.pend i hd hni o ho es hagS
    have hnE : effO P l i = false := by
      cases he : effO P l i with
      | false => rfl
      | true => exact (hni (I.effs i hd he)).elim
    have hquiet : CE P o.op = true := by simp [effO, ho] at hnE; exact hnE
    have next : ∀ (v : Value) (ι' : Ren) (a' : Act) (w' : World), v = val i → ι.le ι' → CU P W0 ι' h w' → RE nt ι' (es.putO o.dst v) a' → ∃ dn' rest' val' ec' es' h', EK P W0 l nt e0 Q ι0 (fun j => j = i ∨ S j) dn' rest' val' ec' es' h' a' w' := by
      intro v ι' a' w' hv hle' hs' hre'
      refine ⟨dn, rest, val, ec, es.putO o.dst v, h, hclosed, ?_, fun j hj he => .inr (I.effs j hj he), I.topo, I.inb, I.chk, I.cur, FL g ho hni I.curS (fun _ _ => rfl) hv.symm, fun q hq hqs => I.pend q hq fun hh => hqs (.inr hh), I.run, ι', Ren.le_trans hle hle', hs', hre'⟩
      rintro j (rfl | hj)
      · exact hd
      · exact I.sub j hj
    refine Kx Av hok hre hs (by rw [← hl]; exact g1) (Kv := fun v h' => v = val i ∧ h' = h) ?_ ?_ ?_
    · intro hg
      unfold H8
      rw [GZ hquiet, g2 hg]
      exact ⟨rfl, rfl⟩
    · rintro hg v h' ⟨rfl, rfl⟩ ι' v' w' hle' hs' hre'
      exact next _ ι' _ w' rfl hle' hs' hre'
    · intro hg hre'
      exact next undef ι _ w (g3 hg).symm (Ren.le_refl _) hs hre'
  · -- it is what comes next
    obtain ⟨pd, r, H', hck, hrun0, hor⟩ := PT.pick rest dn [] I.chk I.run (I.heads hhd hi hd hb)
    have hE : effO P l i = true := hor.elim id fun hh => hhd i pd r hh
    obtain ⟨k1, k2, k3, k4, k5⟩ := I.head hck
    obtain ⟨_, kp, kd⟩ := k4 hE
    have hag : FM l i val e0 ec := Cp g I.cur k3 fun j hj hbj => k1 (I.before hj i hbj)
    obtain ⟨s1, s2⟩ := Fj ho (GG hagS hag)
    have hrun := hrun0
    simp only [ES, ho] at hrun
    have hself : i ∉ EM l i := fun hh => hni (hb i hh)
    have next : ∀ (v : Value) (h' : Heap) (ι' : Ren) (a' : Act) (w' : World), ES P W0 l r (ec.putO o.dst v) h' Q → (∀ q ∈ dn, ¬ S q → ZL P l q val e0 h') → ι.le ι' → CU P W0 ι' h' w' → RE nt ι' (es.putO o.dst v) a' →
        ∃ dn' rest' val' ec' es' h', EK P W0 l nt e0 Q ι0 (fun j => j = i ∨ S j) dn' rest' val' ec' es' h' a' w' := by
      intro v h' ι' a' w' hrn hfine hle' hs' hre'
      have hv : ∀ j, j ≠ i → (if j = i then v else val j) = val j := fun j hj => if_neg hj
      have hvd : ∀ j, j ∈ dn → (if j = i then v else val j) = val j := fun j hj => hv j fun e => k1 (e ▸ hj)
      refine ⟨i :: dn, r, fun j => if j = i then v else val j, ec.putO o.dst v, es.putO o.dst v, h', hclosed, ?_, ?_, ?_, ?_, k5, ?_, ?_, ?_, hrn, ι', Ren.le_trans hle hle', hs', hre'⟩
      · rintro j (rfl | hj)
        · simp
        · exact List.mem_cons_of_mem _ (I.sub j hj)
      · intro j hj he
        rcases List.mem_cons.1 hj with rfl | hj
        · exact .inl rfl
        · exact .inr (I.effs j hj he)
      · intro d1 q d2 hd j hj
        cases d1 with
        | nil => simp at hd; obtain ⟨rfl, rfl⟩ := hd; exact k3 j hj
        | cons x d1 => simp at hd; exact I.topo d1 q d2 hd.2 j hj
      · intro j hj
        rcases List.mem_cons.1 hj with rfl | hj
        · exact k2
        · exact I.inb j hj
      · exact Hc (fun j => by simp) (FL g ho k1 I.cur hvd (by simp))
      · exact FL g ho hni I.curS (fun j hj => hvd j (I.sub j hj)) (by simp)
      · intro q hqd hqs
        rcases List.mem_cons.1 hqd with rfl | hqd
        · exact (hqs (.inl rfl)).elim
        · intro o' ho' e he
          have he2 := Ea (fun j hj => hvd j (I.before hqd j hj)) he
          obtain ⟨gg, g1, g2, g3⟩ := hfine q hqd (fun hh => hqs (.inr hh)) o' ho' e he2
          have : (if q = i then v else val q) = val q := hvd q hqd
          exact ⟨gg, g1, fun hg => by simp only [this]; exact g2 hg, fun hg => by simp only [this]; exact g3 hg⟩
    unfold guarded at hrun
    split at hrun
    · rename_i gg hg
      refine Kx Av hok hre hs (g := gg) (by rw [← hl, s1]; exact hg) (Kv := fun v h' => (∀ q ∈ pd, stays P l q (ec.putO o.dst v) h') ∧ ES P W0 l r (ec.putO o.dst v) h' Q) ?_ ?_ ?_
      · intro hgg; rw [Nn _ s2]; exact hrun.1 hgg
      · rintro hgg v h' ⟨hst, hrn⟩ ι' v' w' hle' hs' hre'
        refine next v h' ι' _ w' hrn ?_ hle' hs' hre'
        intro q hqd hqs o' ho' e he
        obtain ⟨g0, g1, g2, g3⟩ := I.pend q hqd hqs o' ho' e he
        have hqE : CE P o'.op = true := by
          have : effO P l q = false := by
            cases hh : effO P l q with
            | false => rfl
            | true => exact (hqs (I.effs q hqd hh)).elim
          simpa [effO, ho'] using this
        refine ⟨g0, g1, fun hg0 => ?_, g3⟩
        have hold := g2 hg0
        cases hp : KZ P o'.op with
        | true => exact (Ey hqE hold).2 hp h'
        | false =>
          have hstale : HE P l q = true := by simp [HE, ho', hp]
          have hqpd : q ∈ pd := by
            rcases kp q hqd hstale with hh | hh
            · exact hh
            · exact (hqs (Md I.closed dn _ hb q hh)).elim
          -- the environment behind it looks the same to q
          have hagq : FM l q val e0 (ec.putO o.dst v) := by
            intro t ht
            have hno : o.dst ≠ some t := by
              intro hdt
              have hdi : Ba l i = some t := by rw [C8, ho]; exact hdt
              exact k1 (I.before hqd i (kd q hqpd t ht i (.inl rfl) hdi))
            have hput : ec.putO o.dst v t = ec t := by
              cases hdo : o.dst with
              | none => rfl
              | some d => simp [Env.putO, Env.put]; intro htd; subst htd; exact absurd hdo hno
            rw [hput]
            exact ⟨fun j hj hdj => (I.cur t).1 j (I.before hqd j hj) hdj, fun hno2 => (I.cur t).2 fun j hj hdj => hno2 j (kd q hqpd t ht j (.inr hj) hdj) hdj⟩
          obtain ⟨q1, q2⟩ := Fj ho' (GG he hagq)
          have hs3 := hst q hqpd
          unfold stays at hs3
          rw [ho'] at hs3
          simp only at hs3
          rw [← q1, g1, hg0] at hs3
          simp only at hs3
          rw [← Fi _ q2] at hs3
          cases hdq : o'.dst with
          | none =>
            rw [hdq] at hs3
            exact hs3.elim
          | some d =>
            rw [hdq] at hs3
            simp only at hs3
            have hval : ec.putO o.dst v d = val q := by
              have hdq' : Ba l q = some d := by rw [C8, ho']; exact hdq
              have hno : o.dst ≠ some d := by
                intro hdd
                have hdi : Ba l i = some d := by rw [C8, ho]; exact hdd
                exact k1 ((Ml g hdi hdq') ▸ hqd)
              have hput : ec.putO o.dst v d = ec d := by
                cases hdo : o.dst with
                | none => rfl
                | some d' => simp [Env.putO, Env.put]; intro htd; subst htd; exact absurd hdo hno
              rw [hput]; exact (I.cur d).1 q hqd hdq'
            rw [hval] at hs3; exact hs3
      · intro hgg hre'
        refine next undef h ι _ w (hrun.2 hgg) (fun q hqd hqs => I.pend q hqd hqs) (Ren.le_refl _) hs hre'
    · cases hrun
theorem EK.exists_ready (I : EK P W0 l nt e0 Q ι0 S dn rest val ec es h a w) (hex : ∃ i, i < l.length ∧ ¬ S i) : ∃ i, i < l.length ∧ ¬ S i ∧ ∀ j ∈ EM l i, S j := by
 by_cases hd : ∃ q ∈ dn, ¬ S q
 ·obtain ⟨d1, q, d2, h1, h2, h3⟩ := Mk dn hd
  exact ⟨q, I.inb q (by rw [h1]; simp), h2, fun j hj => h3 j (I.topo d1 q d2 h1 j hj)⟩
 ·have hall : ∀ q ∈ dn, S q := fun q hq => Classical.not_not.1 fun hn => hd ⟨q, hq, hn⟩
  obtain ⟨i, hi, hn⟩ := hex
  have hir := (Hq _ _ _ I.chk i hi).resolve_left fun hh => hn (hall i hh)
  have hne : rest.heads ≠ [] := by
   intro h0
   have hc := I.chk
   cases hrest : rest with
   | nil => rw [hrest] at hir; cases hir
   | op k pd r => rw [hrest] at h0; cases h0
   | alt x y =>
    rw [hrest] at hc h0
    simp only [chkT, Bool.and_eq_true] at hc
    simp only [PT.heads, List.append_eq_nil_iff] at h0
    simp [h0.1] at hc
  obtain ⟨k, pd, r, H', h1, h2, h3, h4⟩ := PT.first _ _ _ I.chk hne
  obtain ⟨k1, k2, k3, _⟩ := I.head h2
  exact ⟨k, k2, fun hh => k1 (I.sub k hh), fun j hj => hall j (k3 j hj)⟩
theorem EK.finish (I : EK P W0 l nt e0 Q ι0 S dn rest val ec es h a w) (hall : ∀ i, i < l.length → S i) : G6 P W0 nt ι0 Q .normal a w := by
 have hr : rest = .nil := by
  have hc := I.chk
  have hno : ¬ rest.heads ≠ [] := fun hne => by
   obtain ⟨k, pd, r, H', h1, h2, h3, h4⟩ := PT.first _ _ _ hc hne
   obtain ⟨k1, k2, _⟩ := I.head h2
   exact k1 (I.sub k (hall k k2))
  cases hrest : rest with
  | nil => rfl
  | op k pd r => rw [hrest] at hno; exact (hno (by simp [PT.heads])).elim
  | alt x y =>
   rw [hrest] at hc hno
   simp only [chkT, Bool.and_eq_true] at hc
   refine (hno fun h0 => ?_).elim
   simp only [PT.heads, List.append_eq_nil_iff] at h0
   simp [h0.1] at hc
 have hrun := I.run
 rw [hr] at hrun
 simp only [ES] at hrun
 have hee : ec = es := Wo I.cur (Hc (fun j => ⟨fun hj => I.sub j hj, fun hj => hall j (I.inb j hj)⟩) I.curS)
 obtain ⟨ι, h1, h2, h3⟩ := I.sim
 exact ⟨.normal, es, h, ι, rfl, h1, h2, h3, hee ▸ hrun⟩
theorem EK.any {ops : Array Oper} (hl : l = ops.toList) (hoks : ∀ o ∈ l, E1 nt o = true) (g : JQ l = true) : ∀ (fuel : Nat) (listed : Array Bool) (dn : List Nat) (rest : PT) (val : Nat → Value) (ec es : Env) (h : Heap) (a : Act) (w : World),
    listed.size = ops.size → ((List.range l.length).filter fun i => !(listed.getD i false)).length ≤ fuel →
    EK P W0 l nt e0 Q ι0 (fun i => listed.getD i false = true) dn rest val ec es h a w → wpAny P .any ops (G6 P W0 nt ι0 Q) fuel listed a w := by
  have hlen : l.length = ops.size := by rw [hl]; simp
  intro fuel
  induction fuel with
  | zero =>
    intro listed dn rest val ec es h a w hsz hf I
    have hall : ∀ i, i < l.length → listed.getD i false = true := by
      intro i hi
      have : i ∉ (List.range l.length).filter fun i => !(listed.getD i false) := by
        rw [List.eq_nil_of_length_eq_zero (Nat.le_zero.1 hf)]; simp
      simpa [List.mem_filter, hi] using this
    refine ⟨?_, I.finish hall⟩
    rw [List.eq_nil_iff_forall_not_mem]
    intro i hi
    obtain ⟨h1, h2, _⟩ := (mem_ready hsz).1 hi
    rw [hall i (by omega)] at h2; cases h2
  | succ fuel ih =>
    intro listed dn rest val ec es h a w hsz hf I
    constructor
    · intro hr
      refine I.finish fun i hi => Classical.not_not.1 fun hn => ?_
      obtain ⟨k, h1, h2, h3⟩ := I.exists_ready ⟨i, hi, hn⟩
      have : k ∈ Region.ready .any ops listed := (mem_ready hsz).2 ⟨by omega, by simpa using h2, by rw [← hl]; exact h3⟩
      rw [hr] at this; cases this
    · intro i hi
      obtain ⟨h1, h2, h3⟩ := (mem_ready hsz).1 hi
      obtain ⟨dn', rest', val', ec', I', hhd⟩ := I.ahead g
      refine wpOp_mono ?_ (I'.step (QQ := G6 P W0 nt ι0 Q) hl hoks g hhd (by omega) (by simp [h2]) (by rw [hl]; exact h3))
      rintro a' w' ⟨dn2, rest2, val2, ec2, es2, h2', I2⟩
      have hS : (fun j => j = i ∨ listed.getD j false = true) = fun j => (listed.setIfInBounds i true).getD j false = true := by
        funext j
        simp only [Array.getD_eq_getD_getElem?, Array.getElem?_setIfInBounds]
        by_cases hj : i = j
        · subst hj; simp [show i < listed.size by omega]
        · have hj' : ¬ j = i := fun e => hj e.symm
          simp [hj, hj']
      rw [hS] at I2
      refine ih _ _ _ _ _ _ _ _ _ (by simpa using hsz) ?_ I2
      have hfe : ((List.range l.length).filter fun j => !((listed.setIfInBounds i true).getD j false)) = ((List.range l.length).filter fun j => !(listed.getD j false)).filter fun j => decide (j ≠ i) := by
        rw [List.filter_filter]
        apply List.filter_congr
        intro j _
        have := congrFun hS j
        by_cases hj : j = i
        · subst hj; simp [Array.getD_eq_getD_getElem?, show j < listed.size by omega]
        · have e1 : (listed.setIfInBounds i true).getD j false = listed.getD j false := by
            simp only [Array.getD_eq_getD_getElem?, Array.getElem?_setIfInBounds, if_neg (fun hh : i = j => hj hh.symm)]
          rw [e1]; simp [hj]
      rw [hfe]
      have hlt : (((List.range l.length).filter fun j => !(listed.getD j false)).filter fun j => decide (j ≠ i)).length < ((List.range l.length).filter fun j => !(listed.getD j false)).length := by
        rw [List.length_filter_lt_length_iff_exists]
        exact ⟨i, List.mem_filter.2 ⟨by simp; omega, by simp [h2]⟩, by simp⟩
      omega
end
def gZ (P : Program) (W0 : World) : Go.Ai.DT := fun l e h Q => ∃ p, G5 P l p = true ∧ ES P W0 l p e h Q
theorem VC {nt : Nat} (hm : P.follows .mixedOrders = true) : MX P W0 nt (gZ P W0) fun _ => true := by
 intro id ops e h Q hoks hx hD ι a w hs hr
 obtain ⟨p, hp, hrun⟩ := hD
 simp only [G5, Bool.and_eq_true] at hp
 obtain ⟨g, hchk⟩ := hp
 refine wp_region_any hm ?_
 have hs' : CU P W0 ι h { w with drawn := w.drawn + 1 } := ⟨hs.base, hs.size, hs.dom, hs.own, hs.live, hs.wr, hs.ro, hs.nle, hs.inj, hs.cell, hs.env⟩
 have hrep : ∀ i, (Array.replicate ops.size false).getD i false = false := by
  intro i; simp only [Array.getD_eq_getD_getElem?, Array.getElem?_replicate]; split <;> rfl
 refine EK.any (l := ops.toList) (e0 := e) rfl hoks g ops.size _ [] p (fun _ => undef) e e h a _ (by simp) ?_ ?_
 ·refine Nat.le_trans (List.length_filter_le _ _) (by simp)
 ·refine ⟨?_, ?_, ?_, ?_, ?_, hchk, ?_, ?_, ?_, hrun, ι, Ren.le_refl _, hs', hr⟩
  ·intro i hi; simp only [hrep] at hi; cases hi
  ·intro i hi; simp only [hrep] at hi; cases hi
  ·intro i hi; cases hi
  ·intro d1 q d2 hd; cases d1 <;> cases hd
  ·intro i hi; cases hi
  ·intro t; exact ⟨fun j hj => (by cases hj), fun _ => rfl⟩
  ·intro t; exact ⟨fun j hj => (by simp only [hrep] at hj; cases hj), fun _ => rfl⟩
  ·intro q hq; cases hq
end Go.Ai
end
