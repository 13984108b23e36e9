/- The abstract machine, part 15: plans for regions that draw their order, and that a region that meets its plan's run does so in each order. Nothing about the program stands here. -/
import Derived.Test.YtdakdjpndomdpaaAi14
set_option linter.unusedVariables false
set_option linter.unusedSimpArgs false
namespace Go.Ai
variable {P : Program} {W0 : World}

def effO (P : Program) (l : List Oper) (i : Nat) : Bool := match l[i]? with | some o => !quietO P o.op | none => true
def staleO (P : Program) (l : List Oper) (i : Nat) : Bool := match l[i]? with | some o => !pureO P o.op | none => false
def stays (P : Program) (l : List Oper) (q : Nat) (e : Env) (h : Heap) : Prop := match l[q]? with
  | none => True
  | some o => match guardOf l e o.guard with
    | some true => (match o.dst with | some d => opv P e h o.op = some (e d, h) | none => False)
    | some false => True
    | none => False
def runP (P : Program) (W0 : World) (l : List Oper) : List (Nat × List Nat) → Env → Heap → QT → Prop
  | [], e, h, Q => Q .normal e h
  | (i, pd) :: r, e, h, Q => match l[i]? with
    | none => False
    | some o => guarded (guardOf l e o.guard) (opO P W0 e h o.op fun v h' => (∀ q ∈ pd, stays P l q (e.putO o.dst v) h') ∧ runP P W0 l r (e.putO o.dst v) h' Q) (runP P W0 l r (e.putO o.dst undef) h Q)

def descOk (l : List Oper) : List Nat → List (Nat × List Nat) → Bool
  | _, [] => true
  | D, (k, _) :: r => (bef l k).any (fun j => D.contains j) && descOk l (k :: D) r
def ancs (l : List Oper) : List Nat → List Nat → List Nat
  | [], A => A
  | q :: r, A => ancs l r (if A.contains q then A ++ bef l q else A)
def chk (P : Program) (l : List Oper) : List Nat → List (Nat × List Nat) → Bool
  | _, [] => true
  | pre, (i, pd) :: r => !(pre.contains i) && (decide (i < l.length) && ((bef l i).all (fun j => pre.contains j) && ((!effO P l i || (descOk l [i] r &&
      (pre.all (fun q => !staleO P l q || (pd.contains q || (ancs l pre (bef l i)).contains q)) &&
       pd.all (fun q => (looks l q).all fun t => (i :: pre).all fun j => dstAt l j != some t || (bef l q).contains j)))) && chk P l (i :: pre) r)))
def glob (l : List Oper) : Bool := (List.range l.length).all fun j => match dstAt l j with
  | none => true
  | some t => (List.range l.length).all fun i => (i == j || dstAt l i != some t) && (!(looks l i).contains t || ((bef l i).contains j || (bef l j).contains i))
def okPlan (P : Program) (l : List Oper) (p : List (Nat × List Nat)) : Bool := glob l && ((List.range l.length).all (fun i => (p.map (·.1)).contains i) && chk P l [] p)

theorem dstAt_lt {l : List Oper} {j d : Nat} (h : dstAt l j = some d) : j < l.length := by
  rw [dstAt_eq] at h
  cases hx : l[j]? with
  | none => rw [hx] at h; cases h
  | some o => exact (List.getElem?_eq_some_iff.1 hx).1
theorem looks_lt {l : List Oper} {i t : Nat} (h : t ∈ looks l i) : i < l.length := by
  unfold looks at h
  cases hx : l[i]? with
  | none => rw [hx] at h; cases h
  | some o => exact (List.getElem?_eq_some_iff.1 hx).1
theorem glob_dst {l : List Oper} (g : glob l = true) {i j t : Nat} (hi : dstAt l i = some t) (hj : dstAt l j = some t) : i = j := by
  have := List.all_eq_true.1 g j (by simpa using dstAt_lt hj)
  simp only [hj] at this
  have := List.all_eq_true.1 this i (by simpa using dstAt_lt hi)
  rw [Bool.and_eq_true] at this
  have := this.1
  simp [hi] at this
  exact this
theorem glob_look {l : List Oper} (g : glob l = true) {i j t : Nat} (hi : t ∈ looks l i) (hj : dstAt l j = some t) : j ∈ bef l i ∨ i ∈ bef l j := by
  have := List.all_eq_true.1 g j (by simpa using dstAt_lt hj)
  simp only [hj] at this
  have := List.all_eq_true.1 this i (by simpa using looks_lt hi)
  rw [Bool.and_eq_true] at this
  have := this.2
  simp [hi] at this
  exact this

def Cur (l : List Oper) (X : Nat → Prop) (val : Nat → Value) (e0 e : Env) : Prop :=
  ∀ t, (∀ j, X j → dstAt l j = some t → e t = val j) ∧ ((∀ j, X j → dstAt l j ≠ some t) → e t = e0 t)
def Agree (l : List Oper) (q : Nat) (val : Nat → Value) (e0 e : Env) : Prop :=
  ∀ t ∈ looks l q, (∀ j ∈ bef l q, dstAt l j = some t → e t = val j) ∧ ((∀ j ∈ bef l q, dstAt l j ≠ some t) → e t = e0 t)
def Fine (P : Program) (l : List Oper) (q : Nat) (val : Nat → Value) (e0 : Env) (h : Heap) : Prop :=
  ∀ o, l[q]? = some o → ∀ e, Agree l q val e0 e → ∃ g, guardOf l e o.guard = some g ∧ (g = true → opv P e h o.op = some (val q, h)) ∧ (g = false → val q = undef)

theorem agree_of_cur {l : List Oper} (g : glob l = true) {X : Nat → Prop} {val : Nat → Value} {e0 e : Env} {q : Nat} (c : Cur l X val e0 e) (hb : ∀ j ∈ bef l q, X j) (hn : ∀ j, X j → q ∉ bef l j) : Agree l q val e0 e := by
  intro t ht
  refine ⟨fun j hj hd => (c t).1 j (hb j hj) hd, fun hno => (c t).2 fun j hX hd => ?_⟩
  rcases glob_look g ht hd with h1 | h1
  · exact hno j h1 hd
  · exact hn j hX h1
theorem agree_eq {l : List Oper} {val : Nat → Value} {e0 e e' : Env} {q : Nat} (a : Agree l q val e0 e) (a' : Agree l q val e0 e') : ∀ t ∈ looks l q, e t = e' t := by
  intro t ht
  by_cases hj : ∃ j ∈ bef l q, dstAt l j = some t
  · obtain ⟨j, h1, h2⟩ := hj
    rw [(a t ht).1 j h1 h2, (a' t ht).1 j h1 h2]
  · have hno : ∀ j ∈ bef l q, dstAt l j ≠ some t := fun j h1 h2 => hj ⟨j, h1, h2⟩
    rw [(a t ht).2 hno, (a' t ht).2 hno]
theorem agree_val {l : List Oper} {val val' : Nat → Value} {e0 e : Env} {q : Nat} (h : ∀ j ∈ bef l q, val' j = val j) (a : Agree l q val' e0 e) : Agree l q val e0 e := by
  intro t ht
  exact ⟨fun j hj hd => (((a t ht).1 j hj hd).trans (h j hj)), (a t ht).2⟩
theorem looks_eq {l : List Oper} {q : Nat} {o : Oper} (ho : l[q]? = some o) : looks l q = looksO l o := by simp [looks, ho]
theorem same_ops {l : List Oper} {q : Nat} {o : Oper} (ho : l[q]? = some o) {e e' : Env} (h : ∀ t ∈ looks l q, e t = e' t) :
    guardOf l e o.guard = guardOf l e' o.guard ∧ ∀ x ∈ o.op.operands.toList, e.op x = e'.op x := by
  rw [looks_eq ho] at h
  exact ⟨guard_congr fun t ht => h t (List.mem_append_right _ ht), fun x hx => op_congr (fun t ht => h t (List.mem_append_left _ ht)) hx⟩

theorem cur_add {l : List Oper} (g : glob l = true) {X : Nat → Prop} {val val' : Nat → Value} {e0 e : Env} {i : Nat} {v : Value} {o : Oper} (ho : l[i]? = some o) (hX : ¬ X i) (c : Cur l X val e0 e)
    (hv : ∀ j, X j → val' j = val j) (hi : val' i = v) : Cur l (fun j => j = i ∨ X j) val' e0 (e.putO o.dst v) := by
  have hdi : dstAt l i = o.dst := by rw [dstAt_eq, ho]; rfl
  intro t
  constructor
  · rintro j (rfl | hj) hd
    · rw [hdi] at hd; rw [hd, hi]; simp [Env.putO, Env.put]
    · have : o.dst ≠ some t := fun hh => by
        have := glob_dst g hd (hdi.trans hh); subst this; exact hX hj
      have h1 : e.putO o.dst v t = e t := by
        cases hdo : o.dst with
        | none => rfl
        | some d => simp [Env.putO, Env.put]; intro ht; subst ht; exact absurd hdo this
      rw [h1, (c t).1 j hj hd, hv j hj]
  · intro hno
    have : o.dst ≠ some t := fun hh => hno i (.inl rfl) (hdi.trans hh)
    have h1 : e.putO o.dst v t = e t := by
      cases hdo : o.dst with
      | none => rfl
      | some d => simp [Env.putO, Env.put]; intro ht; subst ht; exact absurd hdo this
    rw [h1]
    exact (c t).2 fun j hj => hno j (.inr hj)
theorem cur_imp {l : List Oper} {X Y : Nat → Prop} {val : Nat → Value} {e0 e : Env} (h : ∀ j, X j ↔ Y j) (c : Cur l X val e0 e) : Cur l Y val e0 e := by
  intro t
  exact ⟨fun j hj => (c t).1 j ((h j).2 hj), fun hno => (c t).2 fun j hj => hno j ((h j).1 hj)⟩
theorem cur_val {l : List Oper} {X : Nat → Prop} {val val' : Nat → Value} {e0 e : Env} (h : ∀ j, X j → val' j = val j) (c : Cur l X val e0 e) : Cur l X val' e0 e := by
  intro t
  exact ⟨fun j hj hd => ((c t).1 j hj hd).trans (h j hj).symm, (c t).2⟩
theorem cur_eq {l : List Oper} {X : Nat → Prop} {val : Nat → Value} {e0 e e' : Env} (c : Cur l X val e0 e) (c' : Cur l X val e0 e') : e = e' := by
  funext t
  by_cases hj : ∃ j, X j ∧ dstAt l j = some t
  · obtain ⟨j, h1, h2⟩ := hj; rw [(c t).1 j h1 h2, (c' t).1 j h1 h2]
  · have hno : ∀ j, X j → dstAt l j ≠ some t := fun j h1 h2 => hj ⟨j, h1, h2⟩
    rw [(c t).2 hno, (c' t).2 hno]

structure Inv (P : Program) (W0 : World) (l : List Oper) (nt : Nat) (e0 : Env) (Q : QT) (ι0 : Ren) (S : Nat → Prop) (dn : List Nat) (rest : List (Nat × List Nat)) (val : Nat → Value) (ec es : Env) (h : Heap) (a : Act) (w : World) : Prop where
  closed : ∀ i, S i → ∀ j ∈ bef l i, S j
  sub : ∀ i, S i → i ∈ dn
  effs : ∀ i ∈ dn, effO P l i = true → S i
  topo : ∀ d1 q d2, dn = d1 ++ q :: d2 → ∀ j ∈ bef l q, j ∈ d2
  inb : ∀ i ∈ dn, i < l.length
  full : ∀ i, i < l.length → i ∈ dn ∨ i ∈ rest.map (·.1)
  chk : chk P l dn rest = true
  cur : Cur l (· ∈ dn) val e0 ec
  curS : Cur l S val e0 es
  pend : ∀ q ∈ dn, ¬ S q → Fine P l q val e0 h
  run : runP P W0 l rest ec h Q
  sim : ∃ ι, ι0.le ι ∧ Sim P W0 ι h w ∧ RE nt ι es a

section
variable {l : List Oper} {nt : Nat} {e0 : Env} {Q : QT} {ι0 : Ren} {S : Nat → Prop} {dn : List Nat} {rest : List (Nat × List Nat)} {val : Nat → Value} {ec es : Env} {h : Heap} {a : Act} {w : World}

theorem Inv.before (I : Inv P W0 l nt e0 Q ι0 S dn rest val ec es h a w) {q : Nat} (hq : q ∈ dn) : ∀ j ∈ bef l q, j ∈ dn := by
  obtain ⟨d1, d2, rfl⟩ := List.append_of_mem hq
  intro j hj
  have := I.topo d1 q d2 rfl j hj
  simp [this]
theorem Inv.head (I : Inv P W0 l nt e0 Q ι0 S dn rest val ec es h a w) {i : Nat} {pd : List Nat} {r : List (Nat × List Nat)} (hr : rest = (i, pd) :: r) :
    i ∉ dn ∧ i < l.length ∧ (∀ j ∈ bef l i, j ∈ dn) ∧ (effO P l i = true → descOk l [i] r = true ∧
      (∀ q ∈ dn, staleO P l q = true → q ∈ pd ∨ q ∈ ancs l dn (bef l i)) ∧ ∀ q ∈ pd, ∀ t ∈ looks l q, ∀ j, j = i ∨ j ∈ dn → dstAt l j = some t → j ∈ bef l q) ∧ Go.Ai.chk P l (i :: dn) r = true := by
  have c := I.chk
  rw [hr] at c
  simp only [Go.Ai.chk, Bool.and_eq_true] at c
  obtain ⟨c1, c2, c3, c4, c5⟩ := c
  refine ⟨by simpa using c1, by simpa using c2, fun j hj => by simpa using List.all_eq_true.1 c3 j hj, fun he => ?_, c5⟩
  rw [he] at c4
  simp only [Bool.not_true, Bool.false_or, Bool.and_eq_true] at c4
  obtain ⟨d1, d2, d3⟩ := c4
  refine ⟨d1, fun q hq hs => ?_, fun q hq t ht j hj hd => ?_⟩
  · have := List.all_eq_true.1 d2 q hq
    simp [hs] at this
    exact this
  · have := List.all_eq_true.1 (List.all_eq_true.1 (List.all_eq_true.1 d3 q hq) t ht) j (by simpa using hj)
    simp [hd] at this
    exact this

/-- A quiet operation that comes next is taken as done. -/
theorem Inv.advance (g : glob l = true) (I : Inv P W0 l nt e0 Q ι0 S dn rest val ec es h a w) {i : Nat} {pd : List Nat} {r : List (Nat × List Nat)} (hr : rest = (i, pd) :: r) (hq : effO P l i = false) :
    ∃ val' ec', Inv P W0 l nt e0 Q ι0 S (i :: dn) r val' ec' es h a w := by
  obtain ⟨h1, h2, h3, _, h5⟩ := I.head hr
  have hrun := I.run
  rw [hr] at hrun
  simp only [runP] at hrun
  have ho : l[i]? = some l[i] := List.getElem?_eq_getElem h2
  generalize l[i] = o at ho
  rw [ho] at hrun
  simp only at hrun
  have hquiet : quietO P o.op = true := by simp [effO, ho] at hq; exact hq
  have hag : Agree l i val e0 ec := agree_of_cur g I.cur h3 fun j hj hb => h1 (I.before hj i hb)
  have hS : ¬ S i := fun hs => h1 (I.sub i hs)
  have hself : i ∉ bef l i := fun hb => h1 (h3 i hb)
  -- in both ways: a value, and what stays
  have fin : ∀ (v : Value), (∃ gg, guardOf l ec o.guard = some gg ∧ (gg = true → opv P ec h o.op = some (v, h)) ∧ (gg = false → v = undef)) → runP P W0 l r (ec.putO o.dst v) h Q →
      ∃ val' ec', Inv P W0 l nt e0 Q ι0 S (i :: dn) r val' ec' es h a w := by
    intro v hf hrn
    have hv : ∀ j, j ≠ i → (if j = i then v else val j) = val j := fun j hj => if_neg hj
    have hvd : ∀ j, j ∈ dn → (if j = i then v else val j) = val j := fun j hj => hv j fun e => h1 (e ▸ hj)
    refine ⟨fun j => if j = i then v else val j, ec.putO o.dst v, ?_⟩
    refine ⟨I.closed, fun j hj => List.mem_cons_of_mem _ (I.sub j hj), ?_, ?_, ?_, ?_, h5, ?_, cur_val (fun j hj => hvd j (I.sub j hj)) I.curS, ?_, hrn, I.sim⟩
    · intro j hj he
      rcases List.mem_cons.1 hj with rfl | hj
      · rw [hq] at he; cases he
      · exact I.effs j hj he
    · intro d1 q d2 hd j hj
      cases d1 with
      | nil => simp at hd; obtain ⟨rfl, rfl⟩ := hd; exact h3 j hj
      | cons x d1 => simp at hd; exact I.topo d1 q d2 hd.2 j hj
    · intro j hj
      rcases List.mem_cons.1 hj with rfl | hj
      · exact h2
      · exact I.inb j hj
    · intro j hj
      rcases I.full j hj with hh | hh
      · exact .inl (List.mem_cons_of_mem _ hh)
      · rw [hr] at hh
        rcases List.mem_cons.1 hh with rfl | hh
        · exact .inl (by simp)
        · exact .inr hh
    · exact cur_imp (fun j => by simp) (cur_add g ho h1 I.cur hvd (by simp))
    · intro q hqd hqs
      rcases List.mem_cons.1 hqd with rfl | hqd
      · intro o' ho' e he
        rw [ho] at ho'; cases ho'
        have he2 := agree_val (fun j hj => hv j fun e => hself (by rw [e] at hj; exact hj)) he
        obtain ⟨s1, s2⟩ := same_ops ho (agree_eq he2 hag)
        obtain ⟨gg, g1, g2, g3⟩ := hf
        exact ⟨gg, by rw [s1]; exact g1, fun hg => by rw [opv_congr _ s2]; simpa using g2 hg, fun hg => by simpa using g3 hg⟩
      · intro o' ho' e he
        have he2 := agree_val (fun j hj => hvd j (I.before hqd j hj)) he
        obtain ⟨gg, g1, g2, g3⟩ := I.pend q hqd hqs o' ho' e he2
        have : (if q = i then v else val q) = val q := hvd q hqd
        exact ⟨gg, g1, fun hg => by simp only [this]; exact g2 hg, fun hg => by simp only [this]; exact g3 hg⟩
  unfold guarded at hrun
  split at hrun
  · rename_i gg hg
    cases gg with
    | false => exact fin undef ⟨false, hg, fun hh => (by cases hh), fun _ => rfl⟩ (hrun.2 rfl)
    | true =>
      replace hrun := hrun.1 rfl
      unfold opO at hrun
      rw [quiet_call hquiet] at hrun
      simp only [andThen] at hrun
      split at hrun
      · rename_i v h' hv
        obtain ⟨rfl, _⟩ := quiet_spec hquiet hv
        exact fin v ⟨true, hg, fun _ => hv, fun hh => (by cases hh)⟩ hrun.2
      · cases hrun
  · cases hrun

theorem Inv.ahead (g : glob l = true) : ∀ (rest : List (Nat × List Nat)) (dn : List Nat) (val : Nat → Value) (ec : Env), Inv P W0 l nt e0 Q ι0 S dn rest val ec es h a w →
    ∃ dn' rest' val' ec', Inv P W0 l nt e0 Q ι0 S dn' rest' val' ec' es h a w ∧ ∀ i pd r, rest' = (i, pd) :: r → effO P l i = true := by
  intro rest
  induction rest with
  | nil => intro dn val ec I; exact ⟨dn, [], val, ec, I, fun _ _ _ hh => by cases hh⟩
  | cons p r ih =>
    intro dn val ec I
    obtain ⟨i, pd⟩ := p
    cases hq : effO P l i with
    | true => exact ⟨dn, _, val, ec, I, fun i' pd' r' hh => by cases hh; exact hq⟩
    | false =>
      obtain ⟨val', ec', I'⟩ := I.advance g rfl hq
      exact ih _ _ _ I'

theorem ancs_sub {S : Nat → Prop} (hc : ∀ i, S i → ∀ j ∈ bef l i, S j) : ∀ (d A : List Nat), (∀ j ∈ A, S j) → ∀ j ∈ ancs l d A, S j
  | [], A, h => h
  | q :: r, A, h => by
    simp only [ancs]
    refine ancs_sub hc r _ ?_
    split
    · rename_i hq
      intro j hj
      rcases List.mem_append.1 hj with hj | hj
      · exact h j hj
      · exact hc q (h q (by simpa using hq)) j hj
    · exact h
theorem desc_not {S : Nat → Prop} (hc : ∀ i, S i → ∀ j ∈ bef l i, S j) : ∀ (r : List (Nat × List Nat)) (D : List Nat), (∀ j ∈ D, ¬ S j) → descOk l D r = true → ∀ k ∈ r.map (·.1), ¬ ∀ j ∈ bef l k, S j
  | [], D, _, _, k, hk => by simp at hk
  | (q, _) :: r, D, hD, hd, k, hk => by
    simp only [descOk, Bool.and_eq_true] at hd
    have hq : ¬ ∀ j ∈ bef l q, S j := by
      intro hall
      obtain ⟨j, hj, hjD⟩ := List.any_eq_true.1 hd.1
      exact hD j (by simpa using hjD) (hall j hj)
    rcases List.mem_cons.1 hk with rfl | hk
    · exact hq
    · refine desc_not hc r (q :: D) ?_ hd.2 k hk
      intro j hj
      rcases List.mem_cons.1 hj with rfl | hj
      · exact fun hs => hq (hc _ hs)
      · exact hD j hj

/-- One operation of the true region. -/
theorem op_real {ops : Array Oper} {QQ : Exit → Act → World → Prop} {ι : Ren} {i : Nat} {o : Oper} (ho : ops[i]? = some o) (hok : okOper nt o = true) (re : RE nt ι es a) (s : Sim P W0 ι h w)
    {g : Bool} (hg : guardOf ops.toList es o.guard = some g) {Kv : Value → Heap → Prop} (hT : g = true → opO P W0 es h o.op Kv) {K : Act → World → Prop}
    (hK : g = true → ∀ v h', Kv v h' → ∀ ι' v' w', ι.le ι' → Sim P W0 ι' h' w' → RE nt ι' (es.putO o.dst v) (a.put o.dst v') → K (a.put o.dst v') w')
    (hF : g = false → RE nt ι (es.putO o.dst undef) (a.put o.dst undef) → K (a.put o.dst undef) w) : wpOp P ops QQ i K a w := by
  have ⟨hop, hd⟩ := okOper_dst hok
  have hw := guard_sound (ops := ops) re hg
  unfold wpOp
  rw [ho]
  simp only
  cases g with
  | false => rw [if_neg (by rw [hw]; decide)]; exact hF rfl (re.putO hd undef_R)
  | true =>
    rw [if_pos hw]
    left
    have hv := hT rfl
    unfold opO at hv
    split at hv
    · rename_i f args hc
      obtain ⟨args', hrun, hargs⟩ := call_sound re hop hc hv.1 w
      unfold Oper.wp
      rw [hrun]
      simp only [Oper.upon]
      exact (hv.2 ι w args' s hargs).mono fun e w' ⟨v, v', h', ι', h1, h2, h3, h4, h5⟩ => by subst h1; exact hK rfl v h' h5 ι' v' w' h2 h3 ((re.mono h2).putO hd h4)
    · unfold andThen at hv
      split at hv
      · rename_i v h' hov
        obtain ⟨ι', w', v', hd', h2, h3, h4⟩ := opv_sound s re hop hov
        unfold Oper.wp
        rcases hd' with hd' | ⟨hd', rfl⟩
        · rw [hd']; simp only [Oper.upon]; exact hK rfl v h' hv ι' v' w' h2 h3 ((re.mono h2).putO hd h4)
        · rw [hd']; simp only [Oper.upon]; exact hK rfl v h' hv ι' undef w' h2 h3 ((re.mono h2).putO hd h4)
      · cases hv

/-- One step of the true region, whichever is ready. -/
theorem Inv.step {ops : Array Oper} {QQ : Exit → Act → World → Prop} (hl : l = ops.toList) (hoks : ∀ o ∈ l, okOper nt o = true) (g : glob l = true) (I : Inv P W0 l nt e0 Q ι0 S dn rest val ec es h a w)
    (hhd : ∀ i pd r, rest = (i, pd) :: r → effO P l i = true) {i : Nat} (hi : i < l.length) (hni : ¬ S i) (hb : ∀ j ∈ bef l i, S j) :
    wpOp P ops QQ i (fun a' w' => ∃ dn' rest' val' ec' es' h', Inv P W0 l nt e0 Q ι0 (fun j => j = i ∨ S j) dn' rest' val' ec' es' h' a' w') a w := by
  have ho : l[i]? = some l[i] := List.getElem?_eq_getElem hi
  have hok := hoks l[i] (List.getElem_mem hi)
  generalize l[i] = o at ho hok
  have hoo : ops[i]? = some o := by rw [hl, Array.getElem?_toList] at ho; exact ho
  obtain ⟨ι, hle, hs, hre⟩ := I.sim
  have hclosed : ∀ j, (j = i ∨ S j) → ∀ k ∈ bef l j, k = i ∨ S k := by
    rintro j (rfl | hj) k hk
    · exact .inr (hb k hk)
    · exact .inr (I.closed j hj k hk)
  have hagS : Agree l i val e0 es := agree_of_cur g I.curS hb fun j hj hbj => hni (I.closed j hj i hbj)
  by_cases hd : i ∈ dn
  · -- planned ahead: its value is known
    obtain ⟨gg, g1, g2, g3⟩ := I.pend i hd hni o ho es hagS
    have hnE : effO P l i = false := by
      cases he : effO P l i with
      | false => rfl
      | true => exact (hni (I.effs i hd he)).elim
    have hquiet : quietO P o.op = true := by simp [effO, ho] at hnE; exact hnE
    have next : ∀ (v : Value) (ι' : Ren) (a' : Act) (w' : World), v = val i → ι.le ι' → Sim P W0 ι' h w' → RE nt ι' (es.putO o.dst v) a' → ∃ dn' rest' val' ec' es' h', Inv P W0 l nt e0 Q ι0 (fun j => j = i ∨ S j) dn' rest' val' ec' es' h' a' w' := by
      intro v ι' a' w' hv hle' hs' hre'
      refine ⟨dn, rest, val, ec, es.putO o.dst v, h, hclosed, ?_, fun j hj he => .inr (I.effs j hj he), I.topo, I.inb, I.full, I.chk, I.cur, cur_add g ho hni I.curS (fun _ _ => rfl) hv.symm, fun q hq hqs => I.pend q hq fun hh => hqs (.inr hh), I.run, ι', Ren.le_trans hle hle', hs', hre'⟩
      rintro j (rfl | hj)
      · exact hd
      · exact I.sub j hj
    refine op_real hoo hok hre hs (by rw [← hl]; exact g1) (Kv := fun v h' => v = val i ∧ h' = h) ?_ ?_ ?_
    · intro hg
      unfold opO
      rw [quiet_call hquiet, g2 hg]
      exact ⟨rfl, rfl⟩
    · rintro hg v h' ⟨rfl, rfl⟩ ι' v' w' hle' hs' hre'
      exact next _ ι' _ w' rfl hle' hs' hre'
    · intro hg hre'
      exact next undef ι _ w (g3 hg).symm (Ren.le_refl _) hs hre'
  · -- it is what comes next
    have hir : i ∈ rest.map (·.1) := (I.full i hi).resolve_left hd
    obtain ⟨pd, r, hr⟩ : ∃ pd r, rest = (i, pd) :: r := by
      cases hrest : rest with
      | nil => rw [hrest] at hir; cases hir
      | cons p r =>
        obtain ⟨k, pd⟩ := p
        rw [hrest] at hir
        rcases List.mem_cons.1 hir with rfl | hir
        · exact ⟨pd, r, rfl⟩
        · exfalso
          have hE := hhd k pd r hrest
          obtain ⟨k1, k2, k3, k4, k5⟩ := I.head hrest
          have hnk : ¬ S k := fun hh => k1 (I.sub k hh)
          exact desc_not I.closed r [k] (by simpa using hnk) (k4 hE).1 i hir hb
    have hE := hhd i pd r hr
    obtain ⟨k1, k2, k3, k4, k5⟩ := I.head hr
    obtain ⟨_, kp, kd⟩ := k4 hE
    have hag : Agree l i val e0 ec := agree_of_cur g I.cur k3 fun j hj hbj => k1 (I.before hj i hbj)
    obtain ⟨s1, s2⟩ := same_ops ho (agree_eq hagS hag)
    have hrun := I.run
    rw [hr] at hrun
    simp only [runP, ho] at hrun
    have hself : i ∉ bef l i := fun hh => hni (hb i hh)
    have next : ∀ (v : Value) (h' : Heap) (ι' : Ren) (a' : Act) (w' : World), runP P W0 l r (ec.putO o.dst v) h' Q → (∀ q ∈ dn, ¬ S q → Fine P l q val e0 h') → ι.le ι' → Sim P W0 ι' h' w' → RE nt ι' (es.putO o.dst v) a' →
        ∃ dn' rest' val' ec' es' h', Inv P W0 l nt e0 Q ι0 (fun j => j = i ∨ S j) dn' rest' val' ec' es' h' a' w' := by
      intro v h' ι' a' w' hrn hfine hle' hs' hre'
      have hv : ∀ j, j ≠ i → (if j = i then v else val j) = val j := fun j hj => if_neg hj
      have hvd : ∀ j, j ∈ dn → (if j = i then v else val j) = val j := fun j hj => hv j fun e => k1 (e ▸ hj)
      refine ⟨i :: dn, r, fun j => if j = i then v else val j, ec.putO o.dst v, es.putO o.dst v, h', hclosed, ?_, ?_, ?_, ?_, ?_, k5, ?_, ?_, ?_, hrn, ι', Ren.le_trans hle hle', hs', hre'⟩
      · rintro j (rfl | hj)
        · simp
        · exact List.mem_cons_of_mem _ (I.sub j hj)
      · intro j hj he
        rcases List.mem_cons.1 hj with rfl | hj
        · exact .inl rfl
        · exact .inr (I.effs j hj he)
      · intro d1 q d2 hd j hj
        cases d1 with
        | nil => simp at hd; obtain ⟨rfl, rfl⟩ := hd; exact k3 j hj
        | cons x d1 => simp at hd; exact I.topo d1 q d2 hd.2 j hj
      · intro j hj
        rcases List.mem_cons.1 hj with rfl | hj
        · exact k2
        · exact I.inb j hj
      · intro j hj
        rcases I.full j hj with hh | hh
        · exact .inl (List.mem_cons_of_mem _ hh)
        · rw [hr] at hh
          rcases List.mem_cons.1 hh with rfl | hh
          · exact .inl (by simp)
          · exact .inr hh
      · exact cur_imp (fun j => by simp) (cur_add g ho k1 I.cur hvd (by simp))
      · exact cur_add g ho hni I.curS (fun j hj => hvd j (I.sub j hj)) (by simp)
      · intro q hqd hqs
        rcases List.mem_cons.1 hqd with rfl | hqd
        · exact (hqs (.inl rfl)).elim
        · intro o' ho' e he
          have he2 := agree_val (fun j hj => hvd j (I.before hqd j hj)) he
          obtain ⟨gg, g1, g2, g3⟩ := hfine q hqd (fun hh => hqs (.inr hh)) o' ho' e he2
          have : (if q = i then v else val q) = val q := hvd q hqd
          exact ⟨gg, g1, fun hg => by simp only [this]; exact g2 hg, fun hg => by simp only [this]; exact g3 hg⟩
    unfold guarded at hrun
    split at hrun
    · rename_i gg hg
      refine op_real hoo hok hre hs (g := gg) (by rw [← hl, s1]; exact hg) (Kv := fun v h' => (∀ q ∈ pd, stays P l q (ec.putO o.dst v) h') ∧ runP P W0 l r (ec.putO o.dst v) h' Q) ?_ ?_ ?_
      · intro hgg; rw [opO_congr _ s2]; exact hrun.1 hgg
      · rintro hgg v h' ⟨hst, hrn⟩ ι' v' w' hle' hs' hre'
        refine next v h' ι' _ w' hrn ?_ hle' hs' hre'
        intro q hqd hqs o' ho' e he
        obtain ⟨g0, g1, g2, g3⟩ := I.pend q hqd hqs o' ho' e he
        have hqE : quietO P o'.op = true := by
          have : effO P l q = false := by
            cases hh : effO P l q with
            | false => rfl
            | true => exact (hqs (I.effs q hqd hh)).elim
          simpa [effO, ho'] using this
        refine ⟨g0, g1, fun hg0 => ?_, g3⟩
        have hold := g2 hg0
        cases hp : pureO P o'.op with
        | true => exact (quiet_spec hqE hold).2 hp h'
        | false =>
          have hstale : staleO P l q = true := by simp [staleO, ho', hp]
          have hqpd : q ∈ pd := by
            rcases kp q hqd hstale with hh | hh
            · exact hh
            · exact (hqs (ancs_sub I.closed dn _ hb q hh)).elim
          -- the environment behind it looks the same to q
          have hagq : Agree l q val e0 (ec.putO o.dst v) := by
            intro t ht
            have hno : o.dst ≠ some t := by
              intro hdt
              have hdi : dstAt l i = some t := by rw [dstAt_eq, ho]; exact hdt
              exact k1 (I.before hqd i (kd q hqpd t ht i (.inl rfl) hdi))
            have hput : ec.putO o.dst v t = ec t := by
              cases hdo : o.dst with
              | none => rfl
              | some d => simp [Env.putO, Env.put]; intro htd; subst htd; exact absurd hdo hno
            rw [hput]
            exact ⟨fun j hj hdj => (I.cur t).1 j (I.before hqd j hj) hdj, fun hno2 => (I.cur t).2 fun j hj hdj => hno2 j (kd q hqpd t ht j (.inr hj) hdj) hdj⟩
          obtain ⟨q1, q2⟩ := same_ops ho' (agree_eq he hagq)
          have hs3 := hst q hqpd
          unfold stays at hs3
          rw [ho'] at hs3
          simp only at hs3
          rw [← q1, g1, hg0] at hs3
          simp only at hs3
          rw [← opv_congr _ q2] at hs3
          cases hdq : o'.dst with
          | none =>
            rw [hdq] at hs3
            exact hs3.elim
          | some d =>
            rw [hdq] at hs3
            simp only at hs3
            have hval : ec.putO o.dst v d = val q := by
              have hdq' : dstAt l q = some d := by rw [dstAt_eq, ho']; exact hdq
              have hno : o.dst ≠ some d := by
                intro hdd
                have hdi : dstAt l i = some d := by rw [dstAt_eq, ho]; exact hdd
                exact k1 ((glob_dst g hdi hdq') ▸ hqd)
              have hput : ec.putO o.dst v d = ec d := by
                cases hdo : o.dst with
                | none => rfl
                | some d' => simp [Env.putO, Env.put]; intro htd; subst htd; exact absurd hdo hno
              rw [hput]; exact (I.cur d).1 q hqd hdq'
            rw [hval] at hs3; exact hs3
      · intro hgg hre'
        refine next undef h ι _ w (hrun.2 hgg) (fun q hqd hqs => I.pend q hqd hqs) (Ren.le_refl _) hs hre'
    · cases hrun

end
end Go.Ai
