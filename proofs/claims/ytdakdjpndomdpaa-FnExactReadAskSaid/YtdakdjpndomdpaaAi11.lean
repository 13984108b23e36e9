/- The abstract machine, part 11: whole bodies and loops; regions that draw their order and only read or call what only adds rows. Nothing about the program stands here. -/
import Derived.Test.YtdakdjpndomdpaaAi10
set_option linter.unusedVariables false
set_option linter.unusedSimpArgs false
namespace Go.Ai
variable {P : Program} {W0 : World}

/-! ### What is forgotten -/
/-- The later heap has all rows of the former one as they were. -/
def Heap.le (h h' : Heap) : Prop := h.n ≤ h'.n ∧ ∀ b, b < h.n → h'.get b = h.get b
theorem Heap.le_refl (h : Heap) : h.le h := ⟨Nat.le_refl _, fun _ _ => rfl⟩
theorem Heap.le_trans {a b c : Heap} (h : a.le b) (h' : b.le c) : a.le c := ⟨Nat.le_trans h.1 h'.1, fun x hx => (h'.2 x (Nat.lt_of_lt_of_le hx h.1)).trans (h.2 x hx)⟩
theorem Heap.le_push (h : Heap) (k : Blk) : h.le (h.push k) := ⟨by simp [Heap.push], fun b hb => by simp [Heap.push]; omega⟩

theorem RS.back {ι ι' : Ren} (hle : ι.le ι') {x y y' : Value} (r : RS ι x y) (r' : RS ι' x y') : RS ι x y' := by
  unfold RS at r r' ⊢
  split at r
  · obtain ⟨c, h1, h2, rfl⟩ := r
    obtain ⟨c', g1, g2, rfl⟩ := r'
    rw [(hle _ _ h1).1] at g1; cases g1
    exact ⟨c, h1, h2, rfl⟩
  · exact r'
  · obtain ⟨c, k, off, h1, h2, h3, h4, h5, rfl⟩ := r
    obtain ⟨c', k', off', g1, g2, g3, g4, g5, rfl⟩ := r'
    rw [(hle _ _ h1).1] at g1; cases g1
    exact ⟨c, k', off', h1, h2, g3, g4, fun N z hz => g5 N z (by rw [(hle _ _ h1).2]; exact hz), rfl⟩
  · exact r'
  · exact r'
  · exact r'
  · exact r'
  · exact r'
  · exact r'
  · obtain ⟨h1, cs, rfl, h2⟩ := r
    obtain ⟨g1, cs', rfl, g2⟩ := r'
    refine ⟨h1, cs', rfl, ?_⟩
    have key : ∀ {l m m' : List Value}, All2 (fun x y => ∃ a c, x = .pointer (some a) ∧ ι.m a.block = some c ∧ a.spot = none ∧ y = .pointer (some ⟨c, a.off, none⟩)) l m →
        All2 (fun x y => ∃ a c, x = .pointer (some a) ∧ ι'.m a.block = some c ∧ a.spot = none ∧ y = .pointer (some ⟨c, a.off, none⟩)) l m' →
        All2 (fun x y => ∃ a c, x = .pointer (some a) ∧ ι.m a.block = some c ∧ a.spot = none ∧ y = .pointer (some ⟨c, a.off, none⟩)) l m' := by
      intro l m m' a b
      induction a generalizing m' with
      | nil => cases b; exact .nil
      | cons p q ih =>
        cases b with
        | cons p' q' =>
          refine .cons ?_ (ih q')
          obtain ⟨a, c, e1, e2, e3, e4⟩ := p
          obtain ⟨a', c', f1, f2, f3, f4⟩ := p'
          rw [e1] at f1; cases f1
          rw [(hle _ _ e2).1] at f2; cases f2
          exact ⟨a, c, e1, e2, e3, f4⟩
    exact key h2 g2
  · exact r
  · exact r

theorem Sim.forget {ι ι' : Ren} {h h' : Heap} {w w' : World} (s : Sim P W0 ι h w) (s' : Sim P W0 ι' h' w') (hle : ι.le ι') (hh : h.le h') : Sim P W0 ι h w' := by
  have live : ∀ b k, h.get b = some k → h'.get b = some k := by
    intro b k hk
    obtain ⟨c, hc⟩ := s.live _ _ hk
    rw [hh.2 b (s.dom _ _ hc).1]; exact hk
  refine ⟨fun b hb => ⟨(s.base b hb).1, (s'.base b hb).2.1, (s.base b hb).2.2⟩, s'.size, fun b c hb => ⟨(s.dom _ _ hb).1, (s'.dom _ _ (hle _ _ hb).1).2⟩, s.own, s.live, s.wr, s.ro, s.nle, s.inj, ?_, s'.env⟩
  intro b k c hk hc
  obtain ⟨cs, ty, fr, g1, g2, g3, g4⟩ := s'.cell b k c (live _ _ hk) (hle _ _ hc).1
  obtain ⟨cs0, ty0, fr0, f1, f2, f3, f4⟩ := s.cell b k c hk hc
  refine ⟨cs, ty, fr, g1, g2, fun j x hx => ?_, fun hw => ⟨by rw [← (hle _ _ hc).2]; exact (g4 hw).1, (g4 hw).2⟩⟩
  obtain ⟨y, hy, ry⟩ := g3 j x hx
  obtain ⟨y0, hy0, ry0⟩ := f3 j x hx
  exact ⟨y, hy, ry0.back hle ry⟩

/-! ### Values without an address are the same in every world -/
theorem plainS_eq {ι : Ren} {v v' : Value} (hp : plainS v = true) (r : RS ι v v') : v' = v := by
  unfold plainS at hp
  split at hp
  · exact r
  · exact r
  · exact r
  · exact r
  · exact r
  · exact r
  · exact r.2.2
  · cases hp
theorem plain_all_eq {ι : Ren} : ∀ {l m : List Value}, l.all plainS = true → All2 (RS ι) l m → m = l
  | _, _, _, .nil => rfl
  | _, _, h, .cons a b => by simp at h; rw [plainS_eq h.1 a, plain_all_eq (by simpa using h.2) b]
theorem plainG_eq {ι : Ren} {v v' : Value} (hp : plainG v = true) (r : RG ι v v') : v' = v := by
  unfold plainG at hp
  unfold RG at r
  split at hp
  · obtain ⟨cs', rfl, ha⟩ := r; congr 1; exact Array.ext' (plain_all_eq hp ha)
  · split at r
    · simp_all
    · exact plainS_eq hp r
theorem plain_all2_eq {ι : Ren} : ∀ {l m : List Value}, l.all plainG = true → All2 (RG ι) l m → m = l
  | _, _, _, .nil => rfl
  | _, _, h, .cons a b => by rw [List.all_cons, Bool.and_eq_true] at h; rw [plainG_eq h.1 a, plain_all2_eq h.2 b]
theorem plainV_eq {ι : Ren} {v v' : Value} (hp : plainV v = true) (r : R ι v v') : v' = v := by
  unfold plainV at hp
  unfold R at r
  split at hp
  · obtain ⟨cs', rfl, ha⟩ := r; congr 1; exact Array.ext' (plain_all2_eq hp ha)
  · split at r
    · simp_all
    · exact plainG_eq hp r

/-! ### Code -/
def seqQ (K : Env → Heap → Prop) (Q : QT) : QT
  | .normal, e, h => K e h
  | .ret, e, h => Q .ret e h
  | .exit j, e, h => Q (.exit j) e h
def blockQ (id : Nat) (Q : QT) : QT
  | .normal, e, h => Q .normal e h
  | .ret, e, h => Q .ret e h
  | .exit j, e, h => if j = id then Q .normal e h else Q (.exit j) e h
def loopQ (I : Nat → Env → Heap → Prop) (n : Nat) (Q : QT) : QT
  | .normal, e, h => ∃ m, m < n ∧ I m e h
  | .ret, e, h => Q .ret e h
  | .exit j, e, h => Q (.exit j) e h
def condV (v : Value) (A B : Prop) : Prop := match v with | .bool b => gate b A B | _ => False
abbrev DT := List Oper → Env → Heap → QT → Prop
/-- A slot of which nothing is known. -/
def hole : Value := .chan none
/-- What is kept of the slots: those named; of the others nothing is known. -/
def cutE (ks : List Nat) (e : Env) : Env := fun t => if ks.contains t then e t else hole
def cutO : Option (List Nat) → Env → Env
  | none, e => e
  | some ks, e => cutE ks e
/-- The rule for regions that draw, and what is kept ahead of each region. -/
structure Rules where
  d : DT
  cp : Nat → Option (List Nat)
theorem cutO_RE {nt : Nat} {ι : Ren} {e : Env} {a : Act} (o : Option (List Nat)) (r : RE nt ι e a) : RE nt ι (cutO o e) a := by
  cases o with
  | none => exact r
  | some ks =>
    refine ⟨r.defers, r.size, fun t => ?_⟩
    simp only [cutO, cutE]
    split
    · exact r.slot t
    · exact trivial

/-- What the code must meet. A region that draws its order: 'D'. A loop: 'I n e h': at its head, with at most n rounds to go. -/
def vcC (P : Program) (W0 : World) (D : Rules) : Code → Env → Heap → QT → Prop
  | .skip, e, h, Q => Q .normal e h
  | .region id ops false, e, h, Q => vcO P W0 ops.toList ops.toList (cutO (D.cp id) e) h Q
  | .region id ops true, e, h, Q => D.d ops.toList (cutO (D.cp id) e) h Q
  | .seq a b, e, h, Q => vcC P W0 D a e h (seqQ (fun e h => vcC P W0 D b e h Q) Q)
  | .cond c t f, e, h, Q => condV (e.op c) (vcC P W0 D t e h Q) (vcC P W0 D f e h Q)
  | .block id b, e, h, Q => vcC P W0 D b e h (blockQ id Q)
  | .loop b, e, h, Q => ∃ (I : Nat → Env → Heap → Prop) (n : Nat), I n e h ∧ ∀ n e h, I n e h → vcC P W0 D b e h (loopQ I n Q)
  | .exit id, e, h, Q => Q (.exit id) e h
  | .ret, e, h, Q => Q .ret e h
  | _, _, _, _ => False

def okCode (nt : Nat) (okD : List Oper → Bool) : Code → Bool
  | .region _ ops d => ops.toList.all (okOper nt) && (!d || okD ops.toList)
  | .seq a b => okCode nt okD a && okCode nt okD b
  | .cond c t f => okOpd c && okCode nt okD t && okCode nt okD f
  | .block _ b => okCode nt okD b
  | .loop b => okCode nt okD b
  | .skip | .exit _ | .ret => true
  | _ => false

/-- What makes a rule for regions that draw sound. -/
def SoundD (P : Program) (W0 : World) (nt : Nat) (D : DT) (okD : List Oper → Bool) : Prop :=
  ∀ (id : Nat) (ops : Array Oper) (e : Env) (h : Heap) (Q : QT), (∀ o ∈ ops.toList, okOper nt o = true) → okD ops.toList = true → D ops.toList e h Q → W P W0 nt (.region id ops true) e h Q

theorem W_loop {nt : Nat} {b : Code} {e : Env} {h : Heap} {Q : QT} (I : Nat → Env → Heap → Prop) (n : Nat) (h0 : I n e h)
    (hr : ∀ n e h, I n e h → W P W0 nt b e h (loopQ I n Q)) : W P W0 nt (.loop b) e h Q := by
  intro ι a w hs hre
  have key : ∀ (n : Nat) (e : Env) (h : Heap) (a : Act) (w : World) (ι1 : Ren), ι.le ι1 → I n e h → Sim P W0 ι1 h w → RE nt ι1 e a → Code.rounds P b (Post P W0 nt ι Q) (n + 1) a w := by
    intro n
    induction n using Nat.strongRecOn with
    | _ n ih =>
      intro e h a w ι1 hle hI hs hre
      rw [rounds_succ]
      refine wp_mono (hr n e h hI ι1 a w hs hre) ?_
      rintro e1 a' w' ⟨x, e', h', ι', rfl, h2, h3, h4, h5⟩
      cases x with
      | normal =>
        obtain ⟨m, hm, hI'⟩ := h5
        have := ih m hm e' h' a' w' ι' (Ren.le_trans hle h2) hI' h3 h4
        have up : ∀ (k : Nat) (a : Act) (w : World), Code.rounds P b (Post P W0 nt ι Q) k a w → ∀ j, Code.rounds P b (Post P W0 nt ι Q) (k + j) a w := by
          intro k
          induction k with
          | zero => intro a w hh; exact hh.elim
          | succ k ihk =>
            intro a w hh j
            rw [show k + 1 + j = (k + j) + 1 by omega, rounds_succ]
            rw [rounds_succ] at hh
            refine wp_mono hh fun e a w he => ?_
            cases e <;> first | exact ihk _ _ he j | exact he
        have := up _ _ _ this (n - (m + 1))
        rwa [show m + 1 + (n - (m + 1)) = n by omega] at this
      | ret => exact ⟨.ret, e', h', ι', rfl, Ren.le_trans hle h2, h3, h4, h5⟩
      | exit j => exact ⟨.exit j, e', h', ι', rfl, Ren.le_trans hle h2, h3, h4, h5⟩
  exact wp_loop_rounds _ (key n e h a w ι (Ren.le_refl _) h0 hs hre)

theorem vcC_sound {nt : Nat} {D : Rules} {okD : List Oper → Bool} (hD : SoundD P W0 nt D.d okD) : ∀ (c : Code), okCode nt okD c = true → ∀ (e : Env) (h : Heap) (Q : QT), vcC P W0 D c e h Q → W P W0 nt c e h Q
  | .skip, _, e, h, Q, hv => fun ι a w hs hr => wp_skip ⟨.normal, e, h, ι, rfl, Ren.le_refl _, hs, hr, hv⟩
  | .region id ops false, hok, e, h, Q, hv => fun ι a w hs hr => by
    simp only [okCode, Bool.and_eq_true] at hok
    exact wp_region_list (vcO_sound ops.toList (List.all_eq_true.1 hok.1) _ h Q ι a w hv hs (cutO_RE _ hr))
  | .region id ops true, hok, e, h, Q, hv => fun ι a w hs hr => by
    simp only [okCode, Bool.and_eq_true] at hok
    exact hD id ops _ h Q (List.all_eq_true.1 hok.1) (by simpa using hok.2) hv ι a w hs (cutO_RE _ hr)
  | .seq c d, hok, e, h, Q, hv => fun ι a w hs hr => by
    simp only [okCode, Bool.and_eq_true] at hok
    refine wp_seq (wp_mono (vcC_sound hD c hok.1 e h _ hv ι a w hs hr) ?_)
    rintro e1 a' w' ⟨x, e', h', ι', rfl, h2, h3, h4, h5⟩
    cases x with
    | normal => exact wp_mono (vcC_sound hD d hok.2 e' h' Q h5 ι' a' w' h3 h4) fun e a w ⟨x, s2, s3, ι2, g1, g2, g3⟩ => ⟨x, s2, s3, ι2, g1, Ren.le_trans h2 g2, g3⟩
    | ret => exact ⟨.ret, e', h', ι', rfl, h2, h3, h4, h5⟩
    | exit j => exact ⟨.exit j, e', h', ι', rfl, h2, h3, h4, h5⟩
  | .cond c t f, hok, e, h, Q, hv => fun ι a w hs hr => by
    simp only [okCode, Bool.and_eq_true] at hok
    simp only [vcC, condV] at hv
    split at hv
    · rename_i b hb
      have r := hr.op hok.1.1
      rw [hb] at r
      have r : a.eval c = .bool b := r
      cases b with
      | true => exact wp_cond_true r (vcC_sound hD t hok.1.2 e h Q (hv.1 rfl) ι a w hs hr)
      | false => exact wp_cond_false r (vcC_sound hD f hok.2 e h Q (hv.2 rfl) ι a w hs hr)
    · cases hv
  | .block id b, hok, e, h, Q, hv => fun ι a w hs hr => by
    simp only [okCode] at hok
    refine wp_block (wp_mono (vcC_sound hD b hok e h _ hv ι a w hs hr) ?_)
    rintro e1 a' w' ⟨x, e', h', ι', rfl, h2, h3, h4, h5⟩
    cases x with
    | normal => exact ⟨.normal, e', h', ι', rfl, h2, h3, h4, h5⟩
    | ret => exact ⟨.ret, e', h', ι', rfl, h2, h3, h4, h5⟩
    | exit j =>
      simp only [Ex.of, Exit.inBlock, blockQ] at h5 ⊢
      split at h5
      · rename_i hj; rw [if_pos hj]; exact ⟨.normal, e', h', ι', rfl, h2, h3, h4, h5⟩
      · rename_i hj; rw [if_neg hj]; exact ⟨.exit j, e', h', ι', rfl, h2, h3, h4, h5⟩
  | .loop b, hok, e, h, Q, hv => by
    simp only [okCode] at hok
    obtain ⟨I, n, h0, hr⟩ := hv
    exact W_loop I n h0 fun n e h hI => vcC_sound hD b hok e h _ (hr n e h hI)
  | .exit id, _, e, h, Q, hv => fun ι a w hs hr => wp_exit ⟨.exit id, e, h, ι, rfl, Ren.le_refl _, hs, hr, hv⟩
  | .ret, _, e, h, Q, hv => fun ι a w hs hr => wp_ret ⟨.ret, e, h, ι, rfl, Ren.le_refl _, hs, hr, hv⟩
  | .rangeFunc .., hok, _, _, _, _ => by simp [okCode] at hok
  | .scope .., hok, _, _, _, _ => by simp [okCode] at hok
  | .label .., hok, _, _, _, _ => by simp [okCode] at hok
  | .goto .., hok, _, _, _, _ => by simp [okCode] at hok
  | .refuse .., hok, _, _, _, _ => by simp [okCode] at hok

/-! ### Functions -/
/-- The results of slots, and of variables in memory. -/
def resH (P : Program) (h : Heap) (e : Env) : List ResultVar → Option (List Value)
  | [] => some []
  | .tmp t :: r => match resH P h e r with
    | some l => some (e t :: l)
    | none => none
  | .cell a t :: r => match loadV P h t (e a), resH P h e r with
    | some v, some l => some (v :: l)
    | _, _ => none

def isTup : Value → Bool
  | .tuple _ => true
  | _ => false
def outV (l : List Value) : Option Value := match l with
  | [v] => some v
  | l => if l.all (fun v => !isTup v) = true then some (.tuple l.toArray) else none


def rootEnv (args : List Value) : Env := fun t => args.getD t undef

theorem All2.getD {r : Value → Value → Prop} {l m : List Value} (h : All2 r l m) {d : Value} (hd : r d d) (t : Nat) : r (l.getD t d) (m.getD t d) := by
  simp only [List.getD_eq_getElem?_getD]
  cases hx : l[t]? with
  | none =>
    have : m[t]? = none := by rw [List.getElem?_eq_none_iff] at hx ⊢; rw [← h.length]; exact hx
    simp [this, hd]
  | some x => obtain ⟨y, hy, r⟩ := h.get hx; simp [hy, r]

def resOne (tmps : Array Value) : ResultVar → Sem Value
  | .tmp t => pure (tmps.getD t undef)
  | .cell b t => do loadVar t (← asAddr (tmps.getD b undef))
theorem results_eq (fn : Func) (tmps : Array Value) : results fn tmps = (do let vs ← fn.results.mapM (resOne tmps); pure (if h : vs.size = 1 then vs[0] else .tuple vs)) := by
  unfold results
  congr 1

theorem resH_sound {nt : Nat} {ι : Ren} {e : Env} {a : Act} {h : Heap} {w : World} (s : Sim P W0 ι h w) (re : RE nt ι e a) : ∀ (rs : List ResultVar) (l : List Value), resH P h e rs = some l →
    ∃ l' : List Value, (rs.mapM (resOne a.tmps)).run P w = .ok l' w ∧ All2 (R ι) l l'
  | [], l, hl => by simp [resH] at hl; subst hl; exact ⟨[], by simp, .nil⟩
  | .tmp t :: rs, l, hl => by
    simp only [resH] at hl
    split at hl
    · rename_i l0 h0
      cases hl
      obtain ⟨l', h1, h2⟩ := resH_sound s re rs l0 h0
      exact ⟨_ :: l', by rw [List.mapM_cons]; simp only [resOne, Sem.run_bind, Sem.run_pure, Result.andThen_ok]; rw [h1]; rfl, .cons (re.slot t) h2⟩
    · cases hl
  | .cell b t :: rs, l, hl => by
    simp only [resH] at hl
    split at hl
    · rename_i v l0 hv h0
      cases hl
      obtain ⟨l', h1, h2⟩ := resH_sound s re rs l0 h0
      obtain ⟨v', h3, h4⟩ := load_sound s hv (re.slot b)
      refine ⟨v' :: l', ?_, .cons h4 h2⟩
      have hp : ∃ q, a.tmps.getD b undef = .pointer (some q) := by
        have r := re.slot b
        unfold loadV at hv
        split at hv
        · rename_i q hq; rw [hq] at r; obtain ⟨c, _, _, hc⟩ := r; exact ⟨_, hc⟩
        · cases hv
      obtain ⟨q, hq⟩ := hp
      rw [hq] at h3
      rw [List.mapM_cons]
      have h5 : (resOne a.tmps (.cell b t)).run P w = .ok v' w := by
        simp only [resOne, hq, asAddr, Sem.run_bind, Sem.run_pure, Result.andThen_ok]
        simp only [Instr.loadAt, Instr.sureAddr, Sem.run_bind, Sem.run_pure, Result.andThen_ok] at h3
        exact h3
      simp only [Sem.run_bind, Sem.run_pure, h5, Result.andThen_ok]
      rw [h1]; rfl
    · cases hl

theorem RG_of {ι : Ren} {x y : Value} (h : isTup x = false) (r : R ι x y) : RG ι x y := by
  unfold R at r; split at r
  · simp [isTup] at h
  · exact r
theorem All2_RG {ι : Ren} : ∀ {l m : List Value}, (l.all fun v => !isTup v) = true → All2 (R ι) l m → All2 (RG ι) l m
  | _, _, _, .nil => .nil
  | _, _, h, .cons a b => by
    rw [List.all_cons, Bool.and_eq_true] at h
    exact .cons (RG_of (by simpa using h.1) a) (All2_RG h.2 b)

/-- How a body ends. -/
def endH (r : Option (List Value)) (h : Heap) (Q : Value → Heap → Prop) : Prop := match r with
  | some l => match outV l with
    | some v => Q v h
    | none => False
  | none => False
def ends (P : Program) (rs : List ResultVar) (Q : Value → Heap → Prop) : QT
  | .exit _, _, _ => False
  | .normal, e, h => endH (resH P h e rs) h Q
  | .ret, e, h => endH (resH P h e rs) h Q

theorem WC_of_body {D : Rules} {okD : List Oper → Bool} {f : FuncId} {fn : Func} {c : Code} (hD : SoundD P W0 fn.ntmps D.d okD) (hf : P.funcs[f]? = some fn) (hb : fn.body = some c)
    (hn : (fn.name != "runtime.NumGoroutine") = true) (hok : okCode fn.ntmps okD c = true) {args : List Value} {h : Heap} (hlen : args.length ≤ fn.ntmps) {Q : Value → Heap → Prop}
    (hv : vcC P W0 D c (rootEnv args) h (ends P fn.results.toList Q)) : WC P W0 f args h Q := by
  refine ⟨by simp [fnOk, hf, hb, hn], fun ι w args' hs ha => calls_of_wp hf hb ?_⟩
  have hl := ha.length
  have hsz : args'.size = args.length := by rw [hl]; simp
  have hre : RE fn.ntmps ι (rootEnv args) { tmps := args' ++ Array.replicate (fn.ntmps - args'.size) undef, defers := [] } := by
    refine ⟨rfl, by simp; omega, fun t => ?_⟩
    have h1 := ha.getD (undef_R (ι := ι)) t
    unfold rootEnv
    have h2 : (args' ++ Array.replicate (fn.ntmps - args'.size) undef).getD t undef = args'.toList.getD t undef := by
      simp only [Array.getD_eq_getD_getElem?, List.getD_eq_getElem?_getD, Array.getElem?_toList, Array.getElem?_append, Array.getElem?_replicate]
      split
      · rfl
      · rename_i h3
        rw [Array.getElem?_eq_none (by omega)]
        split <;> rfl
    rw [h2]; exact h1
  refine wp_mono (vcC_sound hD c hok (rootEnv args) h _ hv ι _ w hs hre) ?_
  rintro e1 a' w' ⟨x, e', h', ι', rfl, h2, h3, h4, h5⟩
  have fin : endH (resH P h' e' fn.results.toList) h' Q →
      a'.defers = [] ∧ ∃ v, (results fn a'.tmps).run P w' = .ok v w' ∧ ∃ v0 v' h' ι'', Ending.returned v = .returned v' ∧ ι.le ι'' ∧ Sim P W0 ι'' h' w' ∧ R ι'' v0 v' ∧ Q v0 h' := by
    intro h5
    refine ⟨h4.defers, ?_⟩
    unfold endH at h5
    split at h5
    · rename_i l hl
      split at h5
      · rename_i v hv
        obtain ⟨l', g1, g2⟩ := resH_sound h3 h4 fn.results.toList l hl
        have hr : (results fn a'.tmps).run P w' = .ok (if h : l'.toArray.size = 1 then l'.toArray[0] else .tuple l'.toArray) w' := by
          rw [results_eq, Array.mapM_eq_mapM_toList]
          simp only [Sem.run_bind, Sem.run_map, Sem.run_pure]
          rw [g1]; rfl
        refine ⟨_, hr, v, _, h', ι', rfl, h2, h3, ?_, h5⟩
        unfold outV at hv
        split at hv
        · cases hv
          match l', g2 with
          | [y], .cons r .nil => simpa using r
        · rename_i hne
          split at hv
          · rename_i ht
            cases hv
            have : l'.toArray.size ≠ 1 := by
              intro he
              have : l.length = 1 := by rw [g2.length]; simpa using he
              match l, this with
              | [x], _ => exact hne x rfl
            rw [dif_neg this]
            exact ⟨_, rfl, by simpa using All2_RG ht g2⟩
          · cases hv
      · cases h5
    · cases h5
  cases x with
  | normal => exact fin h5
  | ret => exact fin h5
  | exit j => exact h5.elim

end Go.Ai
