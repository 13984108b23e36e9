/- Own lemmas that the theorem of this claim needs: the abstract machine and walks of functions. -/
import Derived.Test.YtjofbadmkigkjaaGreatNnLawAA
import Derived.Tactics
import Derived.Deep.Quiet
section
set_option linter.unusedVariables false
set_option linter.unusedSimpArgs false
namespace Go.Ai
variable {P : Program} {W0 : World}
def fnOk (P : Program) (f : FuncId) : Bool := match P.funcs[f]? with | some fn => fn.name != "runtime.NumGoroutine" && fn.body.isSome | none => false
def WC (P : Program) (W0 : World) (f : FuncId) (args : List Value) (h : Heap) (Q : Value → Heap → Prop) : Prop :=
  fnOk P f = true ∧ ∀ (ι : Ren) (w : World) (args' : Array Value), Sim P W0 ι h w → All2 (R ι) args args'.toList →
    Calls P f args' w fun e w' => ∃ v v' h' ι', e = .returned v' ∧ ι.le ι' ∧ Sim P W0 ι' h' w' ∧ R ι' v v' ∧ Q v h'
theorem WC.mono {f : FuncId} {args : List Value} {h : Heap} {Q Q' : Value → Heap → Prop} (c : WC P W0 f args h Q) (hq : ∀ v h', Q v h' → Q' v h') : WC P W0 f args h Q' :=
  ⟨c.1, fun ι w args' s ha => (c.2 ι w args' s ha).mono fun e w' ⟨v, v', h', ι', h1, h2, h3, h4, h5⟩ => ⟨v, v', h', ι', h1, h2, h3, h4, hq _ _ h5⟩⟩
abbrev QT := Ex → Env → Heap → Prop
def Post (P : Program) (W0 : World) (nt : Nat) (ι : Ren) (Q : QT) : Exit → Act → World → Prop := fun e a' w' =>
  ∃ x e' h' ι', e = Ex.of x ∧ ι.le ι' ∧ Sim P W0 ι' h' w' ∧ RE nt ι' e' a' ∧ Q x e' h'
def W (P : Program) (W0 : World) (nt : Nat) (c : Code) (e : Env) (h : Heap) (Q : QT) : Prop :=
  ∀ (ι : Ren) (a : Act) (w : World), Sim P W0 ι h w → RE nt ι e a → c.wp P (Post P W0 nt ι Q) a w
def callOf (e : Env) : Op → Option (FuncId × List Value)
  | .call { callee := .value f, args := xs, argTypes := _ } =>
    match e.op f with
    | .func (.func g) first caps => if first.size = 0 then some (g, xs.toList.map e.op ++ caps.toList) else none
    | _ => none
  | _ => none
def dstAt : List Oper → Nat → Option Nat
  | [], _ => none
  | o :: _, 0 => o.dst
  | _ :: l, n + 1 => dstAt l n
def bitOf (want : Bool) : Value → Option Bool
  | .bool b => some (b == want)
  | .tuple _ => some false
  | _ => none
def guardOf (ops : List Oper) (e : Env) : Option (Nat × Bool) → Option Bool
  | none => some true
  | some (j, want) => match dstAt ops j with
    | none => some false
    | some t => bitOf want (e t)
theorem dstAt_eq : ∀ (l : List Oper) (j : Nat), dstAt l j = (l[j]?).bind (·.dst)
  | [], j => by simp [dstAt]
  | o :: l, 0 => by simp [dstAt]
  | o :: l, n + 1 => by simp [dstAt, dstAt_eq l n]
theorem guard_sound {ops : Array Oper} {nt : Nat} {ι : Ren} {e : Env} {a : Act} {o : Oper} {b : Bool} (re : RE nt ι e a) (h : guardOf ops.toList e o.guard = some b) : Region.wanted o (yielded ops a.tmps) = b := by
  unfold guardOf at h
  unfold Region.wanted
  split at h
  · rename_i hg; cases h; simp [hg]
  · rename_i j want hg
    simp only [hg]
    unfold yielded
    rw [dstAt_eq, Array.getElem?_toList] at h
    split at h
    · rename_i hd; cases h; rw [hd]; rfl
    · rename_i t hd
      rw [hd]
      have r := re.slot t
      unfold bitOf at h
      split at h
      · rename_i v hv
        cases h
        rw [hv] at r
        have r : a.tmps.getD t undef = .bool v := r
        have : a.tmps[t]? = some (.bool v) := by
          cases hx : a.tmps[t]? with
          | none => simp [Array.getD_eq_getD_getElem?, hx, undef] at r
          | some y => simp [Array.getD_eq_getD_getElem?, hx] at r; rw [r]
        simp [this]
      · rename_i vs hv
        cases h
        rw [hv] at r
        obtain ⟨vs', r, _⟩ := r
        cases hx : a.tmps[t]? with
        | none => simp [hx]
        | some y => simp [Array.getD_eq_getD_getElem?, hx] at r; simp [hx, r]
      · cases h
theorem call_sound {nt : Nat} {ι : Ren} {e : Env} {a : Act} {o : Oper} {f : FuncId} {args : List Value} (re : RE nt ι e a) (hok : okOp o.op = true) (hc : callOf e o.op = some (f, args)) (hf : fnOk P f = true) (w : World) :
    ∃ args' : Array Value, (execOp a.eval o).run P w = .ok (.enter f args') w ∧ All2 (R ι) args args'.toList := by
  obtain ⟨dst, op, ty, pos, after, guard⟩ := o
  have hops : ∀ x ∈ op.operands.toList, okOpd x = true := List.all_eq_true.1 hok
  simp only at hc
  unfold callOf at hc
  split at hc
  · rename_i fo xs ts
    split at hc
    · rename_i g first caps hfo
      split at hc
      · rename_i h0
        cases hc
        have hf0 : first = #[] := by simpa using h0
        subst hf0
        have r := re.op (hops fo (by simp [Op.operands, Call.operands]))
        rw [hfo] at r
        obtain ⟨_, caps', hv, hcaps⟩ := r
        have hargs := ops_R re (l := xs.toList) fun x hx => hops x (by simp [Op.operands, Call.operands]; right; simpa using hx)
        refine ⟨xs.map a.eval ++ caps', ?_, ?_⟩
        · unfold fnOk at hf
          split at hf
          · rename_i fn hfn
            rw [Bool.and_eq_true] at hf
            have hn : (fn.name == "runtime.NumGoroutine") = false := by simpa using hf.1
            have hn' : ¬ fn.name = "runtime.NumGoroutine" := by simpa using hn
            have hb : ¬ fn.body = none := by intro hbb; rw [hbb] at hf; simp at hf
            simp [execOp, resolve, hv, Deferred.ofValue, invoke, callFunc, hfn, hn', hb]
          · cases hf
        · rw [Array.toList_append, Array.toList_map]
          refine hargs.append (hcaps.imp fun x y ⟨q, c, h1, h2, h3, h4⟩ => ?_)
          rw [h1]; exact RS.toR ⟨c, h2, h3, h4⟩
      · cases hc
    · cases hc
  · cases hc
def gate (g : Bool) (A B : Prop) : Prop := (g = true → A) ∧ (g = false → B)
def andThen (r : Option (Value × Heap)) (K : Value → Heap → Prop) : Prop := match r with | some (v, h) => K v h | none => False
def guarded (g : Option Bool) (A B : Prop) : Prop := match g with | some b => gate b A B | none => False
def opO (P : Program) (W0 : World) (e : Env) (h : Heap) (o : Op) (K : Value → Heap → Prop) : Prop :=
  match callOf e o with
  | some (f, args) => WC P W0 f args h K
  | none => andThen (opv P e h o) K
def vcO (P : Program) (W0 : World) (ops : List Oper) : List Oper → Env → Heap → QT → Prop
  | [], e, h, Q => Q .normal e h
  | o :: r, e, h, Q => guarded (guardOf ops e o.guard) (opO P W0 e h o.op fun v h' => vcO P W0 ops r (e.putO o.dst v) h' Q) (vcO P W0 ops r (e.putO o.dst undef) h Q)
def okOper (nt : Nat) (o : Oper) : Bool := okOp o.op && (match o.dst with | some d => decide (d < nt) | none => true)
theorem undef_R {ι : Ren} : R ι undef undef := ⟨#[], rfl, .nil⟩
theorem okOper_dst {nt : Nat} {o : Oper} (h : okOper nt o = true) : okOp o.op = true ∧ ∀ d, o.dst = some d → d < nt := by
  unfold okOper at h
  rw [Bool.and_eq_true] at h
  refine ⟨h.1, fun d hd => ?_⟩
  have := h.2; rw [hd] at this; simpa using this
theorem noOut {nt : Nat} {ι : Ren} {Q : QT} : ¬ LetsOut (Post P W0 nt ι Q) := by
  rintro ⟨a, w, x, e', h', ι2, h1, _⟩; cases x <;> cases h1
theorem wpList_post {nt : Nat} {ops : Array Oper} {Q : QT} {ι ι' : Ren} (hle : ι.le ι') : ∀ (l : List Oper) (a : Act) (w : World), wpList P ops (Post P W0 nt ι' Q) l a w → wpList P ops (Post P W0 nt ι Q) l a w := by
  intro l
  have hQ : ∀ e a w, Post P W0 nt ι' Q e a w → Post P W0 nt ι Q e a w :=
    fun e a w ⟨x, e', h', ι2, h1, h2, h3⟩ => ⟨x, e', h', ι2, h1, Ren.le_trans hle h2, h3⟩
  induction l with
  | nil => intro a w hh; exact hQ _ _ _ hh
  | cons o l ih =>
    intro a w hh
    unfold wpList at hh ⊢
    split
    · rename_i hw
      rw [if_pos hw] at hh
      rcases hh with hh | hh
      · left
        unfold Oper.wp at hh ⊢
        generalize (execOp a.eval o).run P w = r at hh ⊢
        cases r with
        | ok n w' =>
          cases n <;> simp only [Oper.upon] at hh ⊢ <;> first
            | exact ih _ _ hh
            | exact Calls.mono hh (fun e w'' he => by cases e <;> first | exact ih _ _ he | exact hQ _ _ _ he | exact (noOut he).elim)
            | exact Rows.mono hh (fun _ _ he => ih _ _ he)
            | exact hh
        | halt x w' => cases x <;> simp only [Oper.upon] at hh ⊢ <;> first | exact hQ _ _ _ hh | exact hh
      · exact (noOut hh.2).elim
    · rename_i hw
      rw [if_neg hw] at hh
      exact ih _ _ hh
theorem vcO_sound {nt : Nat} {ops : Array Oper} : ∀ (l : List Oper), (∀ o ∈ l, okOper nt o = true) → ∀ (e : Env) (h : Heap) (Q : QT) (ι : Ren) (a : Act) (w : World), vcO P W0 ops.toList l e h Q →
    Sim P W0 ι h w → RE nt ι e a → wpList P ops (Post P W0 nt ι Q) l a w
  | [], _, e, h, Q, ι, a, w, hv, hs, hr => ⟨.normal, e, h, ι, rfl, Ren.le_refl _, hs, hr, hv⟩
  | o :: l, hok, e, h, Q, ι, a, w, hv, hs, hr => by
    have ⟨hop, hd⟩ := okOper_dst (hok o (by simp))
    have hok' : ∀ o ∈ l, okOper nt o = true := fun x hx => hok x (by simp [hx])
    have next : ∀ (ι' : Ren) (v v' : Value) (h' : Heap) (w' : World), ι.le ι' → Sim P W0 ι' h' w' → R ι' v v' → vcO P W0 ops.toList l (e.putO o.dst v) h' Q →
        wpList P ops (Post P W0 nt ι Q) l (a.put o.dst v') w' := fun ι' v v' h' w' hle hs' hR hv' =>
      wpList_post hle l _ _ (vcO_sound l hok' (e.putO o.dst v) h' Q ι' (a.put o.dst v') w' hv' hs' ((hr.mono hle).putO hd hR))
    simp only [vcO, guarded] at hv
    split at hv
    · rename_i g hg
      have hw := guard_sound hr hg
      unfold wpList
      cases g with
      | false =>
        rw [if_neg (by rw [hw]; decide)]
        exact next ι undef undef h w (Ren.le_refl _) hs undef_R (hv.2 rfl)
      | true =>
        replace hv := hv.1 rfl
        rw [if_pos hw]
        left
        unfold opO at hv
        split at hv
        · rename_i f args hc
          obtain ⟨args', hrun, hargs⟩ := call_sound hr hop hc hv.1 w
          unfold Oper.wp
          rw [hrun]
          simp only [Oper.upon]
          exact (hv.2 ι w args' hs hargs).mono fun e w' ⟨v, v', h', ι', h1, h2, h3, h4, h5⟩ => by subst h1; exact next ι' v v' h' w' h2 h3 h4 h5
        · unfold andThen at hv
          split at hv
          · rename_i v h' ho
            obtain ⟨ι', w', v', hd', h2, h3, h4⟩ := opv_sound hs hr hop ho
            unfold Oper.wp
            rcases hd' with hd' | ⟨hd', rfl⟩
            · rw [hd']; simp only [Oper.upon]; exact next ι' v v' h' w' h2 h3 h4 hv
            · rw [hd']; simp only [Oper.upon]; exact next ι' v undef h' w' h2 h3 h4 hv
          · cases hv
    · cases hv
end Go.Ai
namespace Go.Ai
variable {P : Program} {W0 : World}
def Heap.le (h h' : Heap) : Prop := h.n ≤ h'.n ∧ ∀ b, b < h.n → h'.get b = h.get b
theorem Heap.le_trans {a b c : Heap} (h : a.le b) (h' : b.le c) : a.le c := ⟨Nat.le_trans h.1 h'.1, fun x hx => (h'.2 x (Nat.lt_of_lt_of_le hx h.1)).trans (h.2 x hx)⟩
theorem Heap.le_push (h : Heap) (k : Blk) : h.le (h.push k) := ⟨by simp [Heap.push], fun b hb => by simp [Heap.push]; omega⟩
def seqQ (K : Env → Heap → Prop) (Q : QT) : QT
  | .normal, e, h => K e h
  | .ret, e, h => Q .ret e h
  | .exit j, e, h => Q (.exit j) e h
def blockQ (id : Nat) (Q : QT) : QT
  | .normal, e, h => Q .normal e h
  | .ret, e, h => Q .ret e h
  | .exit j, e, h => if j = id then Q .normal e h else Q (.exit j) e h
def loopQ (I : Nat → Env → Heap → Prop) (n : Nat) (Q : QT) : QT
  | .normal, e, h => ∃ m, m < n ∧ I m e h
  | .ret, e, h => Q .ret e h
  | .exit j, e, h => Q (.exit j) e h
def condV (v : Value) (A B : Prop) : Prop := match v with | .bool b => gate b A B | _ => False
abbrev DT := List Oper → Env → Heap → QT → Prop
def hole : Value := .chan none
def cutE (ks : List Nat) (e : Env) : Env := fun t => if ks.contains t then e t else hole
def cutO : Option (List Nat) → Env → Env
  | none, e => e
  | some ks, e => cutE ks e
structure Rules where
  d : DT
  cp : Nat → Option (List Nat)
theorem cutO_RE {nt : Nat} {ι : Ren} {e : Env} {a : Act} (o : Option (List Nat)) (r : RE nt ι e a) : RE nt ι (cutO o e) a := by
  cases o with
  | none => exact r
  | some ks =>
    refine ⟨r.defers, r.size, fun t => ?_⟩
    simp only [cutO, cutE]
    split
    · exact r.slot t
    · exact trivial
def vcC (P : Program) (W0 : World) (D : Rules) : Code → Env → Heap → QT → Prop
  | .skip, e, h, Q => Q .normal e h
  | .region id ops false, e, h, Q => vcO P W0 ops.toList ops.toList (cutO (D.cp id) e) h Q
  | .region id ops true, e, h, Q => D.d ops.toList (cutO (D.cp id) e) h Q
  | .seq a b, e, h, Q => vcC P W0 D a e h (seqQ (fun e h => vcC P W0 D b e h Q) Q)
  | .cond c t f, e, h, Q => condV (e.op c) (vcC P W0 D t e h Q) (vcC P W0 D f e h Q)
  | .block id b, e, h, Q => vcC P W0 D b e h (blockQ id Q)
  | .loop b, e, h, Q => ∃ (I : Nat → Env → Heap → Prop) (n : Nat), I n e h ∧ ∀ n e h, I n e h → vcC P W0 D b e h (loopQ I n Q)
  | .exit id, e, h, Q => Q (.exit id) e h
  | .ret, e, h, Q => Q .ret e h
  | _, _, _, _ => False
def okCode (nt : Nat) (okD : List Oper → Bool) : Code → Bool
  | .region _ ops d => ops.toList.all (okOper nt) && (!d || okD ops.toList)
  | .seq a b => okCode nt okD a && okCode nt okD b
  | .cond c t f => okOpd c && okCode nt okD t && okCode nt okD f
  | .block _ b => okCode nt okD b
  | .loop b => okCode nt okD b
  | .skip | .exit _ | .ret => true
  | _ => false
def SoundD (P : Program) (W0 : World) (nt : Nat) (D : DT) (okD : List Oper → Bool) : Prop :=
  ∀ (id : Nat) (ops : Array Oper) (e : Env) (h : Heap) (Q : QT), (∀ o ∈ ops.toList, okOper nt o = true) → okD ops.toList = true → D ops.toList e h Q → W P W0 nt (.region id ops true) e h Q
theorem W_loop {nt : Nat} {b : Code} {e : Env} {h : Heap} {Q : QT} (I : Nat → Env → Heap → Prop) (n : Nat) (h0 : I n e h)
    (hr : ∀ n e h, I n e h → W P W0 nt b e h (loopQ I n Q)) : W P W0 nt (.loop b) e h Q := by
  intro ι a w hs hre
  have key : ∀ (n : Nat) (e : Env) (h : Heap) (a : Act) (w : World) (ι1 : Ren), ι.le ι1 → I n e h → Sim P W0 ι1 h w → RE nt ι1 e a → Code.rounds P b (Post P W0 nt ι Q) (n + 1) a w := by
    intro n
    induction n using Nat.strongRecOn with
    | _ n ih =>
      intro e h a w ι1 hle hI hs hre
      rw [rounds_succ]
      refine wp_mono (hr n e h hI ι1 a w hs hre) ?_
      rintro e1 a' w' ⟨x, e', h', ι', rfl, h2, h3, h4, h5⟩
      cases x with
      | normal =>
        obtain ⟨m, hm, hI'⟩ := h5
        have := ih m hm e' h' a' w' ι' (Ren.le_trans hle h2) hI' h3 h4
        have up : ∀ (k : Nat) (a : Act) (w : World), Code.rounds P b (Post P W0 nt ι Q) k a w → ∀ j, Code.rounds P b (Post P W0 nt ι Q) (k + j) a w := by
          intro k
          induction k with
          | zero => intro a w hh; exact hh.elim
          | succ k ihk =>
            intro a w hh j
            rw [show k + 1 + j = (k + j) + 1 by omega, rounds_succ]
            rw [rounds_succ] at hh
            refine wp_mono hh fun e a w he => ?_
            cases e <;> first | exact ihk _ _ he j | exact he
        have := up _ _ _ this (n - (m + 1))
        rwa [show m + 1 + (n - (m + 1)) = n by omega] at this
      | ret => exact ⟨.ret, e', h', ι', rfl, Ren.le_trans hle h2, h3, h4, h5⟩
      | exit j => exact ⟨.exit j, e', h', ι', rfl, Ren.le_trans hle h2, h3, h4, h5⟩
  exact wp_loop_rounds _ (key n e h a w ι (Ren.le_refl _) h0 hs hre)
theorem vcC_sound {nt : Nat} {D : Rules} {okD : List Oper → Bool} (hD : SoundD P W0 nt D.d okD) : ∀ (c : Code), okCode nt okD c = true → ∀ (e : Env) (h : Heap) (Q : QT), vcC P W0 D c e h Q → W P W0 nt c e h Q
  | .skip, _, e, h, Q, hv => fun ι a w hs hr => wp_skip ⟨.normal, e, h, ι, rfl, Ren.le_refl _, hs, hr, hv⟩
  | .region id ops false, hok, e, h, Q, hv => fun ι a w hs hr => by
    simp only [okCode, Bool.and_eq_true] at hok
    exact wp_region_list (vcO_sound ops.toList (List.all_eq_true.1 hok.1) _ h Q ι a w hv hs (cutO_RE _ hr))
  | .region id ops true, hok, e, h, Q, hv => fun ι a w hs hr => by
    simp only [okCode, Bool.and_eq_true] at hok
    exact hD id ops _ h Q (List.all_eq_true.1 hok.1) (by simpa using hok.2) hv ι a w hs (cutO_RE _ hr)
  | .seq c d, hok, e, h, Q, hv => fun ι a w hs hr => by
    simp only [okCode, Bool.and_eq_true] at hok
    refine wp_seq (wp_mono (vcC_sound hD c hok.1 e h _ hv ι a w hs hr) ?_)
    rintro e1 a' w' ⟨x, e', h', ι', rfl, h2, h3, h4, h5⟩
    cases x with
    | normal => exact wp_mono (vcC_sound hD d hok.2 e' h' Q h5 ι' a' w' h3 h4) fun e a w ⟨x, s2, s3, ι2, g1, g2, g3⟩ => ⟨x, s2, s3, ι2, g1, Ren.le_trans h2 g2, g3⟩
    | ret => exact ⟨.ret, e', h', ι', rfl, h2, h3, h4, h5⟩
    | exit j => exact ⟨.exit j, e', h', ι', rfl, h2, h3, h4, h5⟩
  | .cond c t f, hok, e, h, Q, hv => fun ι a w hs hr => by
    simp only [okCode, Bool.and_eq_true] at hok
    simp only [vcC, condV] at hv
    split at hv
    · rename_i b hb
      have r := hr.op hok.1.1
      rw [hb] at r
      have r : a.eval c = .bool b := r
      cases b with
      | true => exact wp_cond_true r (vcC_sound hD t hok.1.2 e h Q (hv.1 rfl) ι a w hs hr)
      | false => exact wp_cond_false r (vcC_sound hD f hok.2 e h Q (hv.2 rfl) ι a w hs hr)
    · cases hv
  | .block id b, hok, e, h, Q, hv => fun ι a w hs hr => by
    simp only [okCode] at hok
    refine wp_block (wp_mono (vcC_sound hD b hok e h _ hv ι a w hs hr) ?_)
    rintro e1 a' w' ⟨x, e', h', ι', rfl, h2, h3, h4, h5⟩
    cases x with
    | normal => exact ⟨.normal, e', h', ι', rfl, h2, h3, h4, h5⟩
    | ret => exact ⟨.ret, e', h', ι', rfl, h2, h3, h4, h5⟩
    | exit j =>
      simp only [Ex.of, Exit.inBlock, blockQ] at h5 ⊢
      split at h5
      · rename_i hj; rw [if_pos hj]; exact ⟨.normal, e', h', ι', rfl, h2, h3, h4, h5⟩
      · rename_i hj; rw [if_neg hj]; exact ⟨.exit j, e', h', ι', rfl, h2, h3, h4, h5⟩
  | .loop b, hok, e, h, Q, hv => by
    simp only [okCode] at hok
    obtain ⟨I, n, h0, hr⟩ := hv
    exact W_loop I n h0 fun n e h hI => vcC_sound hD b hok e h _ (hr n e h hI)
  | .exit id, _, e, h, Q, hv => fun ι a w hs hr => wp_exit ⟨.exit id, e, h, ι, rfl, Ren.le_refl _, hs, hr, hv⟩
  | .ret, _, e, h, Q, hv => fun ι a w hs hr => wp_ret ⟨.ret, e, h, ι, rfl, Ren.le_refl _, hs, hr, hv⟩
  | .rangeFunc .., hok, _, _, _, _ => by simp [okCode] at hok
  | .scope .., hok, _, _, _, _ => by simp [okCode] at hok
  | .label .., hok, _, _, _, _ => by simp [okCode] at hok
  | .goto .., hok, _, _, _, _ => by simp [okCode] at hok
  | .refuse .., hok, _, _, _, _ => by simp [okCode] at hok
def resH (P : Program) (h : Heap) (e : Env) : List ResultVar → Option (List Value)
  | [] => some []
  | .tmp t :: r => match resH P h e r with
    | some l => some (e t :: l)
    | none => none
  | .cell a t :: r => match loadV P h t (e a), resH P h e r with
    | some v, some l => some (v :: l)
    | _, _ => none
def isTup : Value → Bool
  | .tuple _ => true
  | _ => false
def outV (l : List Value) : Option Value := match l with
  | [v] => some v
  | l => if l.all (fun v => !isTup v) = true then some (.tuple l.toArray) else none
def rootEnv (args : List Value) : Env := fun t => args.getD t undef
theorem All2.getD {r : Value → Value → Prop} {l m : List Value} (h : All2 r l m) {d : Value} (hd : r d d) (t : Nat) : r (l.getD t d) (m.getD t d) := by
  simp only [List.getD_eq_getElem?_getD]
  cases hx : l[t]? with
  | none =>
    have : m[t]? = none := by rw [List.getElem?_eq_none_iff] at hx ⊢; rw [← h.length]; exact hx
    simp [this, hd]
  | some x => obtain ⟨y, hy, r⟩ := h.get hx; simp [hy, r]
def resOne (tmps : Array Value) : ResultVar → Sem Value
  | .tmp t => pure (tmps.getD t undef)
  | .cell b t => do loadVar t (← asAddr (tmps.getD b undef))
theorem results_eq (fn : Func) (tmps : Array Value) : results fn tmps = (do let vs ← fn.results.mapM (resOne tmps); pure (if h : vs.size = 1 then vs[0] else .tuple vs)) := by
  unfold results
  congr 1
theorem resH_sound {nt : Nat} {ι : Ren} {e : Env} {a : Act} {h : Heap} {w : World} (s : Sim P W0 ι h w) (re : RE nt ι e a) : ∀ (rs : List ResultVar) (l : List Value), resH P h e rs = some l →
    ∃ l' : List Value, (rs.mapM (resOne a.tmps)).run P w = .ok l' w ∧ All2 (R ι) l l'
  | [], l, hl => by simp [resH] at hl; subst hl; exact ⟨[], by simp, .nil⟩
  | .tmp t :: rs, l, hl => by
    simp only [resH] at hl
    split at hl
    · rename_i l0 h0
      cases hl
      obtain ⟨l', h1, h2⟩ := resH_sound s re rs l0 h0
      exact ⟨_ :: l', by rw [List.mapM_cons]; simp only [resOne, Sem.run_bind, Sem.run_pure, Result.andThen_ok]; rw [h1]; rfl, .cons (re.slot t) h2⟩
    · cases hl
  | .cell b t :: rs, l, hl => by
    simp only [resH] at hl
    split at hl
    · rename_i v l0 hv h0
      cases hl
      obtain ⟨l', h1, h2⟩ := resH_sound s re rs l0 h0
      obtain ⟨v', h3, h4⟩ := load_sound s hv (re.slot b)
      refine ⟨v' :: l', ?_, .cons h4 h2⟩
      have hp : ∃ q, a.tmps.getD b undef = .pointer (some q) := by
        have r := re.slot b
        unfold loadV at hv
        split at hv
        · rename_i q hq; rw [hq] at r; obtain ⟨c, _, _, hc⟩ := r; exact ⟨_, hc⟩
        · cases hv
      obtain ⟨q, hq⟩ := hp
      rw [hq] at h3
      rw [List.mapM_cons]
      have h5 : (resOne a.tmps (.cell b t)).run P w = .ok v' w := by
        simp only [resOne, hq, asAddr, Sem.run_bind, Sem.run_pure, Result.andThen_ok]
        simp only [Instr.loadAt, Instr.sureAddr, Sem.run_bind, Sem.run_pure, Result.andThen_ok] at h3
        exact h3
      simp only [Sem.run_bind, Sem.run_pure, h5, Result.andThen_ok]
      rw [h1]; rfl
    · cases hl
theorem RG_of {ι : Ren} {x y : Value} (h : isTup x = false) (r : R ι x y) : RG ι x y := by
  unfold R at r; split at r
  · simp [isTup] at h
  · exact r
theorem All2_RG {ι : Ren} : ∀ {l m : List Value}, (l.all fun v => !isTup v) = true → All2 (R ι) l m → All2 (RG ι) l m
  | _, _, _, .nil => .nil
  | _, _, h, .cons a b => by
    rw [List.all_cons, Bool.and_eq_true] at h
    exact .cons (RG_of (by simpa using h.1) a) (All2_RG h.2 b)
def endH (r : Option (List Value)) (h : Heap) (Q : Value → Heap → Prop) : Prop := match r with
  | some l => match outV l with
    | some v => Q v h
    | none => False
  | none => False
def ends (P : Program) (rs : List ResultVar) (Q : Value → Heap → Prop) : QT
  | .exit _, _, _ => False
  | .normal, e, h => endH (resH P h e rs) h Q
  | .ret, e, h => endH (resH P h e rs) h Q
theorem WC_of_body {D : Rules} {okD : List Oper → Bool} {f : FuncId} {fn : Func} {c : Code} (hD : SoundD P W0 fn.ntmps D.d okD) (hf : P.funcs[f]? = some fn) (hb : fn.body = some c)
    (hn : (fn.name != "runtime.NumGoroutine") = true) (hok : okCode fn.ntmps okD c = true) {args : List Value} {h : Heap} (hlen : args.length ≤ fn.ntmps) {Q : Value → Heap → Prop}
    (hv : vcC P W0 D c (rootEnv args) h (ends P fn.results.toList Q)) : WC P W0 f args h Q := by
  refine ⟨by simp [fnOk, hf, hb, hn], fun ι w args' hs ha => calls_of_wp hf hb ?_⟩
  have hl := ha.length
  have hsz : args'.size = args.length := by rw [hl]; simp
  have hre : RE fn.ntmps ι (rootEnv args) { tmps := args' ++ Array.replicate (fn.ntmps - args'.size) undef, defers := [] } := by
    refine ⟨rfl, by simp; omega, fun t => ?_⟩
    have h1 := ha.getD (undef_R (ι := ι)) t
    unfold rootEnv
    have h2 : (args' ++ Array.replicate (fn.ntmps - args'.size) undef).getD t undef = args'.toList.getD t undef := by
      simp only [Array.getD_eq_getD_getElem?, List.getD_eq_getElem?_getD, Array.getElem?_toList, Array.getElem?_append, Array.getElem?_replicate]
      split
      · rfl
      · rename_i h3
        rw [Array.getElem?_eq_none (by omega)]
        split <;> rfl
    rw [h2]; exact h1
  refine wp_mono (vcC_sound hD c hok (rootEnv args) h _ hv ι _ w hs hre) ?_
  rintro e1 a' w' ⟨x, e', h', ι', rfl, h2, h3, h4, h5⟩
  have fin : endH (resH P h' e' fn.results.toList) h' Q →
      a'.defers = [] ∧ ∃ v, (results fn a'.tmps).run P w' = .ok v w' ∧ ∃ v0 v' h' ι'', Ending.returned v = .returned v' ∧ ι.le ι'' ∧ Sim P W0 ι'' h' w' ∧ R ι'' v0 v' ∧ Q v0 h' := by
    intro h5
    refine ⟨h4.defers, ?_⟩
    unfold endH at h5
    split at h5
    · rename_i l hl
      split at h5
      · rename_i v hv
        obtain ⟨l', g1, g2⟩ := resH_sound h3 h4 fn.results.toList l hl
        have hr : (results fn a'.tmps).run P w' = .ok (if h : l'.toArray.size = 1 then l'.toArray[0] else .tuple l'.toArray) w' := by
          rw [results_eq, Array.mapM_eq_mapM_toList]
          simp only [Sem.run_bind, Sem.run_map, Sem.run_pure]
          rw [g1]; rfl
        refine ⟨_, hr, v, _, h', ι', rfl, h2, h3, ?_, h5⟩
        unfold outV at hv
        split at hv
        · cases hv
          match l', g2 with
          | [y], .cons r .nil => simpa using r
        · rename_i hne
          split at hv
          · rename_i ht
            cases hv
            have : l'.toArray.size ≠ 1 := by
              intro he
              have : l.length = 1 := by rw [g2.length]; simpa using he
              match l, this with
              | [x], _ => exact hne x rfl
            rw [dif_neg this]
            exact ⟨_, rfl, by simpa using All2_RG ht g2⟩
          · cases hv
      · cases h5
    · cases h5
  cases x with
  | normal => exact fin h5
  | ret => exact fin h5
  | exit j => exact h5.elim
end Go.Ai
namespace Go.Ai
inductive Hold {α : Type} (a : α) : Type
  | mk
abbrev KT := Value → Heap → Prop
def look (e : Env) (t : Nat) (_ : Hold e) : Value := e t
def opz (e : Env) (x : Operand) (_ : Hold e) : Value := e.op x
def lookL (e : Env) (l : List Operand) (_ : Hold e) : List Value := l.map e.op
def hg (h : Heap) (b : Nat) (_ : Hold h) : Option Blk := h.get b
def hn (h : Heap) (_ : Hold h) : Nat := h.n
section
variable (P : Program) (W0 : World) (D : Rules)
def cz (c : Code) (e : Env) (h : Heap) (Q : QT) (_ : Hold (c, e, h, Q, D)) : Prop := vcC P W0 D c e h Q
def qz (Q : QT) (x : Ex) (e : Env) (h : Heap) (_ : Hold (Q, e, h)) : Prop := Q x e h
def oz (ops l : List Oper) (e : Env) (h : Heap) (Q : QT) (_ : Hold (ops, l, e, h, Q)) : Prop := vcO P W0 ops l e h Q
def xz (o : Op) (e : Env) (h : Heap) (K : KT) (_ : Hold (o, e, h, K)) : Prop := opO P W0 e h o K
def wz (f : FuncId) (a : List Value) (h : Heap) (K : KT) (_ : Hold (h, K)) : Prop := WC P W0 f a h K
def lz (b : Code) (e : Env) (h : Heap) (Q : QT) (_ : Hold (b, e, h, Q, D)) : Prop := vcC P W0 D (.loop b) e h Q
def drz (l : List Oper) (e : Env) (h : Heap) (Q : QT) (_ : Hold (l, e, h, Q, D)) : Prop := D.d l e h Q
def rz (e : Env) (h : Heap) (rs : List ResultVar) (_ : Hold (e, h)) : Option (List Value) := resH P h e rs
def seqK (b : Code) (Q : QT) : QT := seqQ (fun e h => vcC P W0 D b e h Q) Q
def oK (ops r : List Oper) (d : Option Tmp) (e : Env) (Q : QT) : KT := fun v h' => vcO P W0 ops r (e.putO d v) h' Q
end
def kz (K : KT) (v : Value) (h : Heap) (_ : Hold (K, h)) : Prop := K v h
def bz (o : Option Value) (h : Heap) (K : KT) (_ : Hold (h, K)) : Prop := match o with | some v => K v h | none => False
def az (o : Option (Value × Heap)) (K : KT) (_ : Hold K) : Prop := andThen o K
def sz (o : Option Heap) (K : KT) (_ : Hold K) : Prop := match o with | some h' => K undef h' | none => False
def gz (b : Bool) (A B : Prop) (_ : Hold (A, B)) : Prop := gate b A B
def gd (b : Option Bool) (A B : Prop) (_ : Hold (A, B)) : Prop := guarded b A B
def dz (v : Value) (A B : Prop) (_ : Hold (A, B)) : Prop := condV v A B
def ez (r : Option (List Value)) (h : Heap) (K : KT) (_ : Hold (h, K)) : Prop := endH r h K
def nz (cs : Option (List Value)) (n : Option Nat) (h : Heap) (K : KT) (_ : Hold (h, K)) : Prop := match cs, n with | some cs, some n => K (.pointer (some ⟨h.n, 0, none⟩)) (h.push ⟨true, n, cs⟩) | _, _ => False
def roz (r : Option (List Value)) (z n : Nat) (h : Heap) (K : KT) (_ : Hold (h, K)) : Prop := match r with | some l => K (.slice (some ⟨h.n, 0, none⟩) n n) (h.push ⟨true, z, l⟩) | none => False
def dyz (P : Program) (W0 : World) (v : Value) (xs : List Value) (h : Heap) (K : KT) (_ : Hold (h, K)) : Prop := match v with | .func (.func g) first caps => if first.size = 0 then WC P W0 g (xs ++ caps.toList) h K else False | _ => False
variable {P : Program} {W0 : World} {D : Rules} {e : Env} {h : Heap} {Q : QT} {K : KT}
def pk (b : Bool) (v : Value) (e : Env) (t : Nat) (_ : Hold (v, e)) : Value := match b with | true => v | false => e t
theorem pk_t {v : Value} {t : Nat} : pk true v e t .mk = v := rfl
theorem pk_f {v : Value} {t : Nat} : pk false v e t .mk = look e t .mk := rfl
theorem look_put {d t : Nat} {v : Value} : look (e.put d v) t .mk = pk (t == d) v e t .mk := by
  simp only [look, Env.put, pk]; by_cases ht : t = d
  · simp [ht]
  · have : (t == d) = false := by simp [ht]
    rw [if_neg ht, this]
theorem look_putO {d t : Nat} {v : Value} : look (e.putO (some d) v) t .mk = pk (t == d) v e t .mk := look_put
theorem look_putN {t : Nat} {v : Value} : look (e.putO none v) t .mk = look e t .mk := rfl
def hk (b : Bool) (o : Option Blk) (h : Heap) (c : Nat) (_ : Hold (o, h)) : Option Blk := match b with | true => o | false => h.get c
theorem hk_t {o : Option Blk} {c : Nat} : hk true o h c .mk = o := rfl
theorem hk_f {o : Option Blk} {c : Nat} : hk false o h c .mk = hg h c .mk := rfl
theorem root0 {v : Value} {l : List Value} : look (rootEnv (v :: l)) 0 .mk = v := rfl
theorem rootS {v : Value} {l : List Value} {n : Nat} : look (rootEnv (v :: l)) (n + 1) .mk = look (rootEnv l) n .mk := by simp [rootEnv, look]
theorem op_tmp {t : Nat} : opz e (.tmp t) .mk = look e t .mk := rfl
theorem op_const {v : Value} : opz e (.const v) .mk = v := rfl
theorem lookL_nil : lookL e [] .mk = [] := rfl
theorem lookL_cons {x : Operand} {l : List Operand} : lookL e (x :: l) .mk = opz e x .mk :: lookL e l .mk := rfl
theorem hk_ite {b c : Nat} {o : Option Blk} : (if b = c then o else h.get b) = hk (b == c) o h b .mk := by
  unfold hk; by_cases hb : b = c
  · simp [hb]
  · have : (b == c) = false := by simp [hb]
    rw [if_neg hb, this]
theorem hg_push {k : Blk} {b : Nat} : hg (h.push k) b .mk = hk (b == hn h .mk) (some k) h b .mk := hk_ite
theorem hg_set {k : Blk} {b b' : Nat} : hg (h.set b' k) b .mk = hk (b == b') (some k) h b .mk := hk_ite
theorem hg_kill {b b' : Nat} : hg (h.kill b') b .mk = hk (b == b') none h b .mk := hk_ite
theorem hn_push {k : Blk} : hn (h.push k) .mk = hn h .mk + 1 := rfl
theorem hn_set {k : Blk} {b : Nat} : hn (h.set b k) .mk = hn h .mk := rfl
theorem hn_kill {b : Nat} : hn (h.kill b) .mk = hn h .mk := rfl
theorem c_skip : cz P W0 D .skip e h Q .mk = qz Q .normal e h .mk := rfl
theorem c_ret : cz P W0 D .ret e h Q .mk = qz Q .ret e h .mk := rfl
theorem c_exit {id : Nat} : cz P W0 D (.exit id) e h Q .mk = qz Q (.exit id) e h .mk := rfl
theorem c_seq {a b : Code} : cz P W0 D (.seq a b) e h Q .mk = cz P W0 D a e h (seqK P W0 D b Q) .mk := rfl
theorem c_block {id : Nat} {b : Code} : cz P W0 D (.block id b) e h Q .mk = cz P W0 D b e h (blockQ id Q) .mk := rfl
theorem c_cond {c : Operand} {a b : Code} : cz P W0 D (.cond c a b) e h Q .mk = dz (opz e c .mk) (cz P W0 D a e h Q .mk) (cz P W0 D b e h Q .mk) .mk := rfl
theorem c_loop {b : Code} : cz P W0 D (.loop b) e h Q .mk = lz P W0 D b e h Q .mk := rfl
def ctz (F : Env → Prop) (ks : List Nat) (e E : Env) (_ : Hold (F, e, E)) : Prop := F fun t => if ks.contains t then e t else E t
def ctc (F : Env → Prop) (ks : List Nat) (e : Env) (k : Nat) (v : Value) (E : Env) (_ : Hold (F, e, E)) : Prop := F fun t => if ks.contains t then e t else E.put k v t
def ctO (F : Env → Prop) (o : Option (List Nat)) (e : Env) (_ : Hold (F, e)) : Prop := F (cutO o e)
def noE : Env := fun _ => hole
def fz (F : Env → Prop) (e : Env) (_ : Hold (F, e)) : Prop := F e
theorem ctz_nil {F : Env → Prop} {e E : Env} : ctz F [] e E .mk = fz F E .mk := by simp [ctz, fz]
theorem ctz_cons {F : Env → Prop} {e E : Env} {k : Nat} {ks : List Nat} : ctz F (k :: ks) e E .mk = ctc F ks e k (look e k .mk) E .mk := by
  simp only [ctz, ctc, look]
  congr 1
  funext t
  by_cases ht : t = k
  · subst ht; simp [Env.put]
  · simp [Env.put, ht]
theorem ctc_put {F : Env → Prop} {e E : Env} {k : Nat} {v : Value} {ks : List Nat} : ctc F ks e k v E .mk = ctz F ks e (E.put k v) .mk := rfl
theorem ctO_some {F : Env → Prop} {e : Env} {ks : List Nat} : ctO F (some ks) e .mk = ctz F ks e noE .mk := rfl
def cpz (D : Rules) (id : Nat) (_ : Hold D) : Option (List Nat) := D.cp id
def cpL (l : List (List Nat)) (id : Nat) : Option (List Nat) := l[id]?
theorem cp_0 {d : DT} {a : List Nat} {l : List (List Nat)} : cpz ⟨d, cpL (a :: l)⟩ 0 .mk = some a := rfl
theorem cp_S {d : DT} {a : List Nat} {l : List (List Nat)} {n : Nat} : cpz ⟨d, cpL (a :: l)⟩ (n + 1) .mk = cpz ⟨d, cpL l⟩ n .mk := by simp [cpz, cpL]
def rgF (P : Program) (W0 : World) (l : List Oper) (h : Heap) (Q : QT) : Env → Prop := fun e => vcO P W0 l l e h Q
def rdF (D : Rules) (l : List Oper) (h : Heap) (Q : QT) : Env → Prop := fun e => D.d l e h Q
theorem c_region {id : Nat} {l : List Oper} : cz P W0 D (.region id l.toArray false) e h Q .mk = ctO (rgF P W0 l h Q) (cpz D id .mk) e .mk := by simp [cz, vcC, ctO, rgF, cpz]
theorem c_regionD {id : Nat} {l : List Oper} : cz P W0 D (.region id l.toArray true) e h Q .mk = ctO (rdF D l h Q) (cpz D id .mk) e .mk := by simp [cz, vcC, ctO, rdF, cpz]
theorem fz_rg {l : List Oper} : fz (rgF P W0 l h Q) e .mk = oz P W0 l l e h Q .mk := rfl
theorem fz_rd {l : List Oper} : fz (rdF D l h Q) e .mk = drz D l e h Q .mk := rfl
theorem d_bool {b : Bool} {A B : Prop} : dz (.bool b) A B .mk = gz b A B .mk := rfl
theorem g_true {A B : Prop} : gz true A B .mk = A := by simp [gz, gate]
theorem g_false {A B : Prop} : gz false A B .mk = B := by simp [gz, gate]
theorem seqQ_n {b : Code} : qz (seqK P W0 D b Q) .normal e h .mk = cz P W0 D b e h Q .mk := rfl
theorem seqQ_r {b : Code} : qz (seqK P W0 D b Q) .ret e h .mk = qz Q .ret e h .mk := rfl
theorem seqQ_x {b : Code} {j : Nat} : qz (seqK P W0 D b Q) (.exit j) e h .mk = qz Q (.exit j) e h .mk := rfl
theorem blockQ_n {id : Nat} : qz (blockQ id Q) .normal e h .mk = qz Q .normal e h .mk := rfl
theorem blockQ_r {id : Nat} : qz (blockQ id Q) .ret e h .mk = qz Q .ret e h .mk := rfl
theorem blockQ_x {id j : Nat} : qz (blockQ id Q) (.exit j) e h .mk = if j = id then qz Q .normal e h .mk else qz Q (.exit j) e h .mk := rfl
def nxz (I : Nat → Env → Heap → Prop) (n : Nat) (e : Env) (h : Heap) (_ : Hold (I, n, e, h)) : Prop := ∃ m, m < n ∧ I m e h
theorem loopQ_n {I : Nat → Env → Heap → Prop} {n : Nat} : qz (loopQ I n Q) .normal e h .mk = nxz I n e h .mk := rfl
theorem loopQ_r {I : Nat → Env → Heap → Prop} {n : Nat} : qz (loopQ I n Q) .ret e h .mk = qz Q .ret e h .mk := rfl
theorem loopQ_x {I : Nat → Env → Heap → Prop} {n j : Nat} : qz (loopQ I n Q) (.exit j) e h .mk = qz Q (.exit j) e h .mk := rfl
theorem ends_r {rs : List ResultVar} : qz (ends P rs K) .ret e h .mk = ez (rz P e h rs .mk) h K .mk := rfl
theorem rz_nil : rz P e h [] .mk = some [] := rfl
def consR (v : Option Value) (l : Option (List Value)) : Option (List Value) := match v, l with | some v, some l => some (v :: l) | _, _ => none
theorem consR_some {v : Value} {l : List Value} : consR (some v) (some l) = some (v :: l) := rfl
theorem rz_tmp {t : Nat} {r : List ResultVar} : rz P e h (.tmp t :: r) .mk = consR (some (look e t .mk)) (rz P e h r .mk) := by simp only [rz, resH, consR, look]; cases resH P h e r <;> rfl
def loadz (P : Program) (h : Heap) (t : TypeId) (v : Value) (_ : Hold h) : Option Value := loadV P h t v
theorem rz_cell {a t : Nat} {r : List ResultVar} : rz P e h (.cell a t :: r) .mk = consR (loadz P h t (look e a .mk) .mk) (rz P e h r .mk) := rfl
theorem e_1 {v : Value} : ez (some [v]) h K .mk = kz K v h .mk := rfl
theorem e_2 {v u : Value} (hv : isTup v = false) (hu : isTup u = false) : ez (some [v, u]) h K .mk = kz K (.tuple #[v, u]) h .mk := by simp [ez, endH, outV, hv, hu, kz]
theorem tup_bool {b : Bool} : isTup (.bool b) = false := rfl
theorem kz_o {ops r : List Oper} {d : Option Tmp} {v : Value} : kz (oK P W0 ops r d e Q) v h .mk = oz P W0 ops r (e.putO d v) h Q .mk := rfl
theorem b_some {v : Value} : bz (some v) h K .mk = kz K v h .mk := rfl
theorem a_some {v : Value} {h' : Heap} : az (some (v, h')) K .mk = kz K v h' .mk := rfl
theorem s_some {h' : Heap} : sz (some h') K .mk = kz K undef h' .mk := rfl
theorem n_some {cs : List Value} {n : Nat} : nz (some cs) (some n) h K .mk = kz K (.pointer (some ⟨hn h .mk, 0, none⟩)) (h.push ⟨true, n, cs⟩) .mk := rfl
theorem ro_some {l : List Value} {z n : Nat} : roz (some l) z n h K .mk = kz K (.slice (some ⟨hn h .mk, 0, none⟩) n n) (h.push ⟨true, z, l⟩) .mk := rfl
theorem o_nil {ops : List Oper} : oz P W0 ops [] e h Q .mk = qz Q .normal e h .mk := rfl
theorem o_cons {ops r : List Oper} {d : Option Tmp} {o : Op} {t : TypeId} {p : String} {a : Array Edge} :
    oz P W0 ops (⟨d, o, t, p, a, none⟩ :: r) e h Q .mk = xz P W0 o e h (oK P W0 ops r d e Q) .mk := by
  show gate true (opO P W0 e h o (oK P W0 ops r d e Q)) _ = opO P W0 e h o (oK P W0 ops r d e Q)
  simp only [gate]; exact propext ⟨fun hh => hh.1 trivial, fun hh => ⟨fun _ => hh, fun hf => absurd hf (by simp)⟩⟩
theorem o_guard {ops r : List Oper} {d : Option Tmp} {o : Op} {t : TypeId} {p : String} {a : Array Edge} {j : Nat} {b : Bool} :
    oz P W0 ops (⟨d, o, t, p, a, some (j, b)⟩ :: r) e h Q .mk =
      gd (guardOf ops e (some (j, b))) (xz P W0 o e h (oK P W0 ops r d e Q) .mk) (oz P W0 ops r (e.putO d undef) h Q .mk) .mk := rfl
def dstz (l : List Oper) (j : Nat) (_ : Hold l) : Option Nat := dstAt l j
def gof (d : Option Nat) (b : Bool) (e : Env) (_ : Hold e) : Option Bool := match d with | none => some false | some t => bitOf b (e t)
theorem guard_at {ops : List Oper} {j : Nat} {b : Bool} : guardOf ops e (some (j, b)) = gof (dstz ops j .mk) b e .mk := rfl
theorem gof_some {t : Nat} {b : Bool} : gof (some t) b e .mk = bitOf b (look e t .mk) := rfl
theorem dst0 {o : Oper} {l : List Oper} : dstz (o :: l) 0 .mk = o.dst := rfl
theorem dstS {o : Oper} {l : List Oper} {n : Nat} : dstz (o :: l) (n + 1) .mk = dstz l n .mk := rfl
theorem gd_some {b : Bool} {A B : Prop} : gd (some b) A B .mk = gz b A B .mk := rfl
theorem bit_bool {w b : Bool} : bitOf w (.bool b) = some (b == w) := rfl
theorem bit_undef {w : Bool} : bitOf w undef = some false := rfl
theorem beq_tt {b : Bool} : (b == true) = b := by simp
theorem beq_ff {b : Bool} : (b == false) = !b := by cases b <;> rfl
theorem x_move {x : Operand} : xz P W0 (.move x) e h K .mk = kz K (opz e x .mk) h .mk := rfl
theorem x_assign {x : Operand} : xz P W0 (.assign x) e h K .mk = kz K (opz e x .mk) h .mk := rfl
def pickV (c a b : Value) : Option Value := match c with | .bool true => some a | .bool false => some b | _ => none
theorem x_pick {c x y : Operand} : xz P W0 (.pick c x y) e h K .mk = bz (pickV (opz e c .mk) (opz e x .mk) (opz e y .mk)) h K .mk := by
  simp only [xz, opO, callOf, opv, andThen, bz, pickV, opz]; cases e.op c <;> simp; rename_i b; cases b <;> simp
theorem pick_t {a b : Value} : pickV (.bool true) a b = some a := rfl
theorem pick_f {a b : Value} : pickV (.bool false) a b = some b := rfl
def pkB (c a b : Bool) : Bool := match c with | true => a | false => b
theorem pkB_t {a b : Bool} : pkB true a b = a := rfl
theorem pkB_f {a b : Bool} : pkB false a b = b := rfl
theorem pick_b {c a b : Bool} : pickV (.bool c) (.bool a) (.bool b) = some (.bool (pkB c a b)) := by cases c <;> rfl
theorem x_alloc {t : TypeId} : xz P W0 (.alloc t) e h K .mk = nz (zr? P t) (sz? P t) h K .mk := by
  simp only [xz, opO, callOf, opv, andThen, nz]; cases zr? P t <;> cases sz? P t <;> simp [newV]
theorem x_box {t : TypeId} {x : Operand} : xz P W0 (.box t x) e h K .mk = nz (cellsL (opz e x .mk)) (sz? P t) h K .mk := by
  simp only [xz, opO, callOf, opv, andThen, nz, opz]; cases cellsL (e.op x) <;> cases sz? P t <;> simp [newV]
theorem x_load {t : TypeId} {x : Operand} : xz P W0 (.load t x) e h K .mk = bz (loadz P h t (opz e x .mk) .mk) h K .mk := by
  simp only [xz, opO, callOf, opv, bz, loadz, opz]; cases loadV P h t (e.op x) <;> rfl
def storez (P : Program) (h : Heap) (t : TypeId) (x y : Value) (_ : Hold h) : Option Heap := storeV P h t x y
theorem x_store {t : TypeId} {x y : Operand} : xz P W0 (.store t x y) e h K .mk = sz (storez P h t (opz e x .mk) (opz e y .mk) .mk) K .mk := by
  simp only [xz, opO, callOf, opv, andThen, sz, storez, opz]; cases storeV P h t (e.op x) (e.op y) <;> simp
theorem x_bin {op : BinOp} {t u : TypeId} {x y : Operand} : xz P W0 (.binOp op t x y u) e h K .mk = bz (binV P op t (opz e x .mk) (opz e y .mk)) h K .mk := by
  simp only [xz, opO, callOf, opv, bz, opz]; cases binV P op t (e.op x) (e.op y) <;> rfl
theorem x_un {op : UnOp} {t : TypeId} {x : Operand} : xz P W0 (.unOp op t x) e h K .mk = bz (unV op (opz e x .mk)) h K .mk := by
  simp only [xz, opO, callOf, opv, bz, opz]; cases unV op (e.op x) <;> rfl
def convz (P : Program) (h : Heap) (s d : TypeId) (x : Value) (_ : Hold h) : Option (Value × Heap) := convV P h s d x
theorem x_conv {s d : TypeId} {x : Operand} : xz P W0 (.convert s d x) e h K .mk = az (convz P h s d (opz e x .mk) .mk) K .mk := rfl
def omap (o : Option Operand) (e : Env) (_ : Hold e) : Option Value := o.map e.op
theorem omap_none : omap none e .mk = none := rfl
theorem omap_some {x : Operand} : omap (some x) e .mk = some (opz e x .mk) := rfl
def slicez (P : Program) (h : Heap) (t : TypeId) (x : Value) (lo hi mx : Option Value) (_ : Hold h) : Option Value := sliceV P h t x lo hi mx
theorem x_slice {t : TypeId} {x : Operand} {lo hi mx : Option Operand} : xz P W0 (.slice t x lo hi mx) e h K .mk = bz (slicez P h t (opz e x .mk) (omap lo e .mk) (omap hi e .mk) (omap mx e .mk) .mk) h K .mk := by
  simp only [xz, opO, callOf, opv, bz, opz, slicez, omap]; cases sliceV P h t (e.op x) (lo.map e.op) (hi.map e.op) (mx.map e.op) <;> rfl
theorem x_fieldAddr {s : TypeId} {x : Operand} {f : Nat} : xz P W0 (.fieldAddr s x f) e h K .mk = bz (fieldAddrV P s (opz e x .mk) f) h K .mk := by
  simp only [xz, opO, callOf, opv, bz, opz]; cases fieldAddrV P s (e.op x) f <;> rfl
theorem x_indexAddr {t : TypeId} {x y : Operand} : xz P W0 (.indexAddr t x y) e h K .mk = bz (indexAddrV P t (opz e x .mk) (opz e y .mk)) h K .mk := by
  simp only [xz, opO, callOf, opv, bz, opz]; cases indexAddrV P t (e.op x) (e.op y) <;> rfl
theorem x_extract {x : Operand} {i : Nat} : xz P W0 (.extract x i) e h K .mk = bz (extractV (opz e x .mk) i) h K .mk := by
  simp only [xz, opO, callOf, opv, bz, opz]; cases extractV (e.op x) i <;> rfl
def makez (P : Program) (h : Heap) (t : TypeId) (x y : Value) (_ : Hold h) : Option (Value × Heap) := makeSliceV P h t x y
theorem x_make {t : TypeId} {x y : Operand} : xz P W0 (.makeSlice t x y) e h K .mk = az (makez P h t (opz e x .mk) (opz e y .mk) .mk) K .mk := rfl
def stepz (p : Option (Nat × Nat)) (vs : Option (List Value)) (cs : List Value) : Option (List Value) := match p, vs with | some (off, n), some vs => if vs.length = n then wrt cs off vs else none | _, _ => none
def fillo (place : Nat → Option (Nat × Nat)) (e : Env) (l : List (Nat × Operand)) (cs : Option (List Value)) (_ : Hold (place, e, l)) : Option (List Value) := match cs with | some cs => fillL place e l cs | none => none
theorem fillo_nil {p : Nat → Option (Nat × Nat)} {cs : List Value} : fillo p e [] (some cs) .mk = some cs := rfl
theorem fillo_cons {p : Nat → Option (Nat × Nat)} {i : Nat} {x : Operand} {l : List (Nat × Operand)} {cs : List Value} : fillo p e ((i, x) :: l) (some cs) .mk = fillo p e l (stepz (p i) (cellsL (opz e x .mk)) cs) .mk := by
  simp only [fillo, fillL, stepz, opz]
  cases p i with
  | none => rfl
  | some q =>
    obtain ⟨off, n⟩ := q
    cases cellsL (e.op x) with
    | none => rfl
    | some vs =>
      by_cases hv : vs.length = n
      · simp only [if_pos hv]; cases wrt cs off vs <;> rfl
      · simp only [if_neg hv]
def aggO (l : Option (List Value)) : Option Value := l.map fun l => .agg l.toArray
theorem aggO_some {l : List Value} : aggO (some l) = some (.agg l.toArray) := rfl
def placeS (P : Program) (t : TypeId) : Nat → Option (Nat × Nat) := fun i => (fld? P t i).map fun p => (p.1, p.2.1)
theorem placeS_at {t i : Nat} : placeS P t i = (fld? P t i).map fun p => (p.1, p.2.1) := rfl
theorem x_build {t : TypeId} {ps : List (Nat × Operand)} (hz : (zr? P t).isSome = true) (hb : bldOk P t = true) : xz P W0 (.build t ps.toArray) e h K .mk = bz (aggO (fillo (placeS P t) e ps (zr? P t) .mk)) h K .mk := by
  cases hz' : zr? P t with
  | none => rw [hz'] at hz; cases hz
  | some z =>
    simp only [xz, opO, callOf, opv, bz, hz', if_pos hb, aggO, fillo, show placeS P t = (fun i => (fld? P t i).map fun p => (p.1, p.2.1)) from rfl]
    generalize fillL (fun i => (fld? P t i).map fun p => (p.1, p.2.1)) e ps z = r
    cases r <;> rfl
def placeE (z : Nat) : Nat → Option (Nat × Nat) := fun i => some (i * z, z)
theorem placeE_at {z i : Nat} : placeE z i = some (i * z, z) := rfl
def elT (o : Option (TypeId × Nat × Nat)) : Nat := match o with | some (e, _, _) => e | none => 0
def elZ (o : Option (TypeId × Nat × Nat)) : Nat := match o with | some (_, z, _) => z | none => 0
theorem elT_some {e z b : Nat} : elT (some (e, z, b)) = e := rfl
theorem elZ_some {e z b : Nat} : elZ (some (e, z, b)) = z := rfl
def rowOk (o : Option (TypeId × Nat × Nat)) (zs : Option (List Value)) (n : Nat) : Bool := match o, zs with
  | some (_, z, _), some zs => decide (n ≤ 64) && (decide (zs.length = z) && decide (z ≤ 64))
  | _, _ => false
theorem rowOk_some {u z b n : Nat} {zs : List Value} : rowOk (some (u, z, b)) (some zs) n = (decide (n ≤ 64) && (decide (zs.length = z) && decide (z ≤ 64))) := rfl
def repO (n : Nat) (o : Option (List Value)) : Option (List Value) := match o with | some z => some (repL n z) | none => none
theorem repO_some {n : Nat} {z : List Value} : repO n (some z) = some (repL n z) := rfl
theorem rep_0 {z : List Value} : repL 0 z = [] := rfl
theorem rep_S {n : Nat} {z : List Value} : repL (n + 1) z = z ++ repL n z := by simp [repL, List.replicate_succ]
theorem x_row {t n : Nat} {ps : List (Nat × Operand)} (hn : rowOk (elt? P t) (zr? P (elT (elt? P t))) n = true) :
    xz P W0 (.buildSlice t n ps.toArray) e h K .mk = roz (fillo (placeE (elZ (elt? P t))) e ps (repO n (zr? P (elT (elt? P t)))) .mk) (elZ (elt? P t)) n h K .mk := by
  cases he : elt? P t with
  | none => rw [he] at hn; cases hn
  | some q =>
    obtain ⟨u, z, y⟩ := q
    rw [he] at hn
    simp only [elT] at hn
    cases hz : zr? P u with
    | none => rw [hz] at hn; cases hn
    | some zs =>
      rw [hz] at hn
      simp only [rowOk, Bool.and_eq_true, decide_eq_true_eq] at hn
      simp only [xz, opO, callOf, opv, roz, he, hz, if_pos hn, fillo, elZ, elT, repO, show placeE z = (fun i => some (i * z, z)) from rfl]
      generalize fillL (fun i => some (i * z, z)) e ps (repL n zs) = r
      cases r <;> rfl
theorem x_call {f : FuncId} {xs : List Operand} {ts : Array TypeId} : xz P W0 (.call ⟨.value (.func f), xs.toArray, ts⟩) e h K .mk = wz P W0 f (lookL e xs .mk) h K .mk := by
  simp [xz, opO, callOf, Env.op, wz, lookL]
theorem dy_fn {g : FuncId} {xs : List Value} {caps : List Value} : dyz P W0 (.func (.func g) #[] caps.toArray) xs h K .mk = wz P W0 g (xs ++ caps) h K .mk := by simp [dyz, wz]
theorem x_dyn {t : Tmp} {xs : List Operand} {ts : Array TypeId} : xz P W0 (.call ⟨.value (.tmp t), xs.toArray, ts⟩) e h K .mk = dyz P W0 (look e t .mk) (lookL e xs .mk) h K .mk := by
  have hno : opv P e h (.call ⟨.value (.tmp t), xs.toArray, ts⟩) = none := rfl
  simp only [xz, opO, callOf, dyz, hno, andThen, look, lookL, Env.op]
  generalize e t = v
  cases v <;> try rfl
  rename_i fn first caps
  cases fn <;> try rfl
  by_cases h3 : first.size = 0 <;> simp [h3]
def biz (P : Program) (h : Heap) (b : Builtin) (ts : List TypeId) (xs : List Value) (_ : Hold h) : Option (Value × Heap) := builtinV P h b ts xs
theorem x_builtin {b : Builtin} {xs : List Operand} {ts : List TypeId} : xz P W0 (.call ⟨.builtin b, xs.toArray, ts.toArray⟩) e h K .mk = az (biz P h b ts (lookL e xs .mk) .mk) K .mk := by
  simp [xz, opO, callOf, opv, biz, lookL, az]
def fnB (b : Bool) (f : FuncId) (l : List Value) : Option Value := match b with | true => some (.func (.func f) #[] l.toArray) | false => none
def fnV (f : FuncId) (l : List Value) : Option Value := fnB (l.all ptrV) f l
theorem fnV1 {f : FuncId} {a : Addr} : fnV f [.pointer (some a)] = some (.func (.func f) #[] [.pointer (some a)].toArray) := rfl
theorem fnV2 {f : FuncId} {a b : Addr} : fnV f [.pointer (some a), .pointer (some b)] = some (.func (.func f) #[] [.pointer (some a), .pointer (some b)].toArray) := rfl
theorem x_fn {f : FuncId} {xs : List Operand} : xz P W0 (.makeFunc (.func f) #[] xs.toArray) e h K .mk = bz (fnV f (lookL e xs .mk)) h K .mk := by
  have hl : lookL e xs .mk = xs.map e.op := rfl
  have hm : xs.toArray.map e.op = (xs.map e.op).toArray := by simp
  simp only [xz, opO, callOf, opv, fnV, hl, hm]
  by_cases hp : (xs.all fun x => ptrV (e.op x)) = true
  · have h2 : ((xs.map e.op).all ptrV) = true := by simpa using hp
    rw [if_pos ⟨rfl, hp⟩, h2]; rfl
  · have h2 : ((xs.map e.op).all ptrV) = false := by simpa using hp
    rw [if_neg (fun hh => hp hh.2), h2]; rfl
def ldA (o : Option (List Value)) : Option Value := match o with | some l => some (.agg l.toArray) | none => none
def ldz (g : Option Bool) (n : Option Nat) (k : Option Blk) (off : Nat) : Option Value := match k with
  | some k => (match g with | some true => (match n with | some n => ldA (rd k.cs off n) | none => none) | some false => k.cs[off]? | none => none)
  | none => none
theorem ld_one {n : Option Nat} {w : Bool} {z off : Nat} {cs : List Value} : ldz (some false) n (some ⟨w, z, cs⟩) off = cs[off]? := rfl
theorem ld_agg {n : Nat} {w : Bool} {z off : Nat} {cs : List Value} : ldz (some true) (some n) (some ⟨w, z, cs⟩) off = ldA (rd cs off n) := rfl
theorem load_ptr {t : TypeId} {b off : Nat} {p : Option Nat} : loadz P h t (.pointer (some ⟨b, off, p⟩)) .mk = ldz (agg? P t) (sz? P t) (hg h b .mk) off := by
  simp only [loadz, loadV, hg, ldz, ldA]
  cases h.get b with
  | none => rfl
  | some k =>
    simp only
    cases agg? P t with
    | none => rfl
    | some g =>
      cases g with
      | false => rfl
      | true =>
        simp only
        cases sz? P t with
        | none => rfl
        | some n => simp only; cases rd k.cs off n <;> rfl
def stz (vs : Option (List Value)) (n : Option Nat) (k : Option Blk) (h : Heap) (b off : Nat) (_ : Hold h) : Option Heap := match vs, n, k with
  | some vs, some n, some k => if k.w = true ∧ vs.length = n ∧ vs.all okCell = true then (wrt k.cs off vs).map fun cs => h.set b ⟨true, k.sz, cs⟩ else none
  | _, _, _ => none
def stw (b : Bool) (cs : Option (List Value)) (h : Heap) (c z : Nat) (_ : Hold h) : Option Heap := match b, cs with
  | true, some cs => some (h.set c ⟨true, z, cs⟩)
  | _, _ => none
theorem stw_some {cs : List Value} {c z : Nat} : stw true (some cs) h c z .mk = some (h.set c ⟨true, z, cs⟩) := rfl
theorem st_some {vs : List Value} {n z b off : Nat} {cs : List Value} : stz (some vs) (some n) (some ⟨true, z, cs⟩) h b off .mk = stw (vs.length == n && vs.all okCell) (wrt cs off vs) h b z .mk := by
  simp only [stz, stw]
  by_cases hv : vs.length = n
  · by_cases hq : vs.all okCell = true
    · simp only [hv, hq, and_self, if_true, beq_self_eq_true, Bool.and_self]; cases wrt cs off vs <;> rfl
    · simp [hv, hq]
  · simp [hv]
theorem store_ptr {t : TypeId} {b off : Nat} {p : Option Nat} {y : Value} : storez P h t (.pointer (some ⟨b, off, p⟩)) y .mk = stz (cellsL y) (sz? P t) (hg h b .mk) h b off .mk := by
  simp only [storez, storeV, hg, stz]
  cases cellsL y <;> cases sz? P t <;> first | rfl | (dsimp only; cases h.get b <;> rfl)
theorem cells_int {k : IntKind} {n : Int} : cellsL (.int k n) = some [.int k n] := rfl
theorem cells_str {b : ByteArray} : cellsL (.string b) = some [.string b] := rfl
theorem i_add {t : TypeId} {k : IntKind} {x y : Int} : binV P .add t (.int k x) (.int k y) = some (.int k (k.wrap (x + y))) := (if_pos rfl : binV P .add t (.int k x) (.int k y) = binI .add k x y).trans (rfl)
theorem i_sub {t : TypeId} {k : IntKind} {x y : Int} : binV P .sub t (.int k x) (.int k y) = some (.int k (k.wrap (x - y))) := (if_pos rfl : binV P .sub t (.int k x) (.int k y) = binI .sub k x y).trans (rfl)
theorem i_mul {t : TypeId} {k : IntKind} {x y : Int} : binV P .mul t (.int k x) (.int k y) = some (.int k (k.wrap (x * y))) := (if_pos rfl : binV P .mul t (.int k x) (.int k y) = binI .mul k x y).trans (rfl)
theorem i_eql {t : TypeId} {k : IntKind} {x y : Int} : binV P .eql t (.int k x) (.int k y) = some (.bool (decide (x = y))) := (if_pos rfl : binV P .eql t (.int k x) (.int k y) = binI .eql k x y).trans (by simp [binI, Bool.beq_eq_decide_eq])
theorem i_neq {t : TypeId} {k : IntKind} {x y : Int} : binV P .neq t (.int k x) (.int k y) = some (.bool (decide (x ≠ y))) := (if_pos rfl : binV P .neq t (.int k x) (.int k y) = binI .neq k x y).trans (by simp only [binI]; congr 2; by_cases hxy : x = y <;> simp [hxy])
theorem i_lss {t : TypeId} {k : IntKind} {x y : Int} : binV P .lss t (.int k x) (.int k y) = some (.bool (decide (x < y))) := (if_pos rfl : binV P .lss t (.int k x) (.int k y) = binI .lss k x y).trans (rfl)
theorem i_leq {t : TypeId} {k : IntKind} {x y : Int} : binV P .leq t (.int k x) (.int k y) = some (.bool (decide (x ≤ y))) := (if_pos rfl : binV P .leq t (.int k x) (.int k y) = binI .leq k x y).trans (rfl)
theorem i_gtr {t : TypeId} {k : IntKind} {x y : Int} : binV P .gtr t (.int k x) (.int k y) = some (.bool (decide (y < x))) := (if_pos rfl : binV P .gtr t (.int k x) (.int k y) = binI .gtr k x y).trans (rfl)
theorem i_geq {t : TypeId} {k : IntKind} {x y : Int} : binV P .geq t (.int k x) (.int k y) = some (.bool (decide (y ≤ x))) := (if_pos rfl : binV P .geq t (.int k x) (.int k y) = binI .geq k x y).trans (rfl)
theorem i_quo {t : TypeId} {k : IntKind} {x y : Int} (h0 : (y == 0) = false) : binV P .quo t (.int k x) (.int k y) = some (.int k (k.wrap (x.tdiv y))) := (if_pos rfl : binV P .quo t (.int k x) (.int k y) = binI .quo k x y).trans (by simp_all [binI])
theorem i_rem {t : TypeId} {k : IntKind} {x y : Int} (h0 : (y == 0) = false) : binV P .rem t (.int k x) (.int k y) = some (.int k (x.tmod y)) := (if_pos rfl : binV P .rem t (.int k x) (.int k y) = binI .rem k x y).trans (by simp_all [binI])
theorem bin_str {op : BinOp} {t : TypeId} {x y : ByteArray} : binV P op t (.string x) (.string y) = binS op x y := rfl
theorem un_neg {k : IntKind} {n : Int} : unV .neg (.int k n) = some (.int k (k.wrap (0 - n))) := rfl
theorem un_not {b : Bool} : unV .not (.bool b) = some (.bool !b) := rfl
theorem gz_intro {b : Bool} {A B : Prop} (ha : b = true → A) (hb : b = false → B) : gz b A B .mk := ⟨ha, hb⟩
theorem gz_dec {p : Prop} [Decidable p] {A B : Prop} (ha : p → A) (hb : ¬ p → B) : gz (decide p) A B .mk := ⟨fun h => ha (of_decide_eq_true h), fun h => hb (of_decide_eq_false h)⟩
theorem lz_intro {b : Code} (I : Nat → Env → Heap → Prop) (n : Nat) (h0 : I n e h) (hr : ∀ n e h, I n e h → cz P W0 D b e h (loopQ I n Q) .mk) : lz P W0 D b e h Q .mk := ⟨I, n, h0, hr⟩
theorem wz_intro {f : FuncId} {a : List Value} {K0 : KT} (c : WC P W0 f a h K0) (hk : ∀ v h', K0 v h' → kz K v h' .mk) : wz P W0 f a h K .mk := c.mono hk
theorem WC_start {okD : List Oper → Bool} {f : FuncId} {fn : Func} {c : Code} (hD : SoundD P W0 fn.ntmps D.d okD) (hf : P.funcs[f]? = some fn) (hb : fn.body = some c)
    (hn : (fn.name != "runtime.NumGoroutine") = true) (hok : okCode fn.ntmps okD c = true) {rs : List ResultVar} (hrs : fn.results.toList = rs) {args : List Value} {nt : Nat} (hnt : fn.ntmps = nt) (hlen : args.length ≤ nt)
    (hv : cz P W0 D c (rootEnv args) h (ends P rs K) .mk) : WC P W0 f args h K := WC_of_body hD hf hb hn hok (by rw [hnt]; exact hlen) (by rw [hrs]; exact hv)
attribute [go_sem] pk_t pk_f hk_t hk_f look_put look_putO look_putN root0 rootS op_tmp op_const lookL_nil lookL_cons hg_push hg_set hg_kill hn_push hn_set hn_kill c_skip c_ret c_exit c_seq c_block c_cond c_loop c_region c_regionD fz_rg fz_rd ctz_nil ctz_cons ctc_put ctO_some cp_0 cp_S d_bool g_true g_false seqQ_n seqQ_r seqQ_x blockQ_n blockQ_r blockQ_x loopQ_n loopQ_r loopQ_x ends_r rz_nil consR_some rz_tmp rz_cell e_1 e_2 tup_bool b_some a_some s_some n_some ro_some o_nil o_cons o_guard guard_at gof_some dst0 dstS gd_some bit_bool bit_undef beq_tt beq_ff x_move x_assign x_pick pick_t pick_f pkB_t pkB_f pick_b x_alloc x_box x_load x_store x_bin x_un x_conv omap_none omap_some x_slice x_fieldAddr x_indexAddr x_extract x_make fillo_nil fillo_cons aggO_some placeS_at placeE_at x_build elT_some elZ_some rowOk_some repO_some rep_0 rep_S x_row List.cons_append List.nil_append List.append_nil x_call dy_fn x_dyn x_builtin fnV1 fnV2 x_fn ld_one ld_agg load_ptr stw_some st_some store_ptr cells_int cells_str bin_str i_add i_sub i_mul i_quo i_rem i_eql i_neq i_lss i_leq i_gtr i_geq un_neg un_not
end Go.Ai
namespace Go.Ai
variable {P : Program} {W0 : World} {D : Rules} {e : Env} {h : Heap} {Q : QT} {K : KT}
def eltT (o : Option (TypeId × Nat × Nat)) : Nat := match o with | some (e, _, _) => e | none => 0
def eltZ (o : Option (TypeId × Nat × Nat)) : Nat := match o with | some (_, z, _) => z | none => 0
theorem eltT_some {e z b : Nat} : eltT (some (e, z, b)) = e := rfl
theorem eltZ_some {e z b : Nat} : eltZ (some (e, z, b)) = z := rfl
def consO (v : Value) (l : Option (List Value)) : Option (List Value) := match l with | some l => some (v :: l) | none => none
theorem consO_some {v : Value} {l : List Value} : consO v (some l) = some (v :: l) := rfl
theorem rd_nil {cs : List Value} : rd cs 0 0 = some [] := by simp [rd]
theorem rd_one {c : Value} {cs : List Value} {n : Nat} : rd (c :: cs) 0 (n + 1) = consO c (rd cs 0 n) := by
  simp only [rd, consO, List.length_cons, Nat.zero_add, List.drop_zero, List.take_succ_cons]
  by_cases hn : n ≤ cs.length
  · rw [if_pos (by omega), if_pos hn]
  · rw [if_neg (by omega), if_neg hn]
theorem rd_skip {c : Value} {cs : List Value} {o n : Nat} : rd (c :: cs) (o + 1) n = rd cs o n := by
  simp only [rd, List.length_cons, List.drop_succ_cons]
  by_cases hn : o + n ≤ cs.length
  · rw [if_pos (by omega), if_pos hn]
  · rw [if_neg (by omega), if_neg hn]
theorem rd_all {cs : List Value} {n : Nat} (hn : cs.length = n) : rd cs 0 n = some cs := by subst hn; simp [rd]
theorem wrt_nil {cs : List Value} : wrt cs 0 [] = some cs := by simp [wrt]
theorem wrt_one {c v : Value} {cs vs : List Value} : wrt (c :: cs) 0 (v :: vs) = consO v (wrt cs 0 vs) := by
  simp only [wrt, consO, List.length_cons, Nat.zero_add, List.take_zero, List.nil_append, List.drop_succ_cons, List.cons_append]
  by_cases hn : vs.length ≤ cs.length
  · rw [if_pos (by omega), if_pos hn]
  · rw [if_neg (by omega), if_neg hn]
theorem wrt_skip {c : Value} {cs vs : List Value} {o : Nat} : wrt (c :: cs) (o + 1) vs = consO c (wrt cs o vs) := by
  simp only [wrt, consO, List.length_cons, List.take_succ_cons, List.cons_append]
  by_cases hn : o + vs.length ≤ cs.length
  · rw [if_pos (by omega), if_pos hn, show o + 1 + vs.length = (o + vs.length) + 1 by omega, List.drop_succ_cons]
  · rw [if_neg (by omega), if_neg hn]
theorem step_some {off n : Nat} {vs cs : List Value} (hn : (vs.length == n) = true) : stepz (some (off, n)) (some vs) cs = wrt cs off vs := by
  simp only [stepz]; rw [if_pos (by simpa using hn)]
theorem fld_map {o n : Nat} {b : Bool} : (Option.map (fun p : Nat × Nat × Bool => (p.1, p.2.1)) (some (o, n, b))) = some (o, n) := rfl
def fldO (o : Option (Nat × Nat × Bool)) : Nat := match o with | some (o, _, _) => o | none => 0
theorem fldO_some {o n : Nat} {b : Bool} : fldO (some (o, n, b)) = o := rfl
def fldN (o : Option (Nat × Nat × Bool)) : Nat := match o with | some (_, n, _) => n | none => 0
theorem fldN_some {o n : Nat} {b : Bool} : fldN (some (o, n, b)) = n := rfl
def posN : Nat → Bool
  | 0 => false
  | _ + 1 => true
theorem posN_S {n : Nat} : posN (n + 1) = true := rfl
theorem fa_ptr {s b off f : Nat} {p : Option Nat} (hn : posN (fldN (fld? P s f)) = true) : fieldAddrV P s (.pointer (some ⟨b, off, p⟩)) f = some (.pointer (some ⟨b, off + fldO (fld? P s f), none⟩)) := by
  unfold fieldAddrV
  cases hf : fld? P s f with
  | none => rw [hf] at hn; simp [fldN, posN] at hn
  | some q =>
    obtain ⟨o, n, g⟩ := q
    rw [hf] at hn
    simp only [fldN] at hn
    match n, hn with
    | n + 1, _ => rfl
    | 0, hn => simp [posN] at hn
theorem ia_at {t b off n c : Nat} {p : Option Nat} {k : IntKind} {i : Int} (h1 : (elt? P t).isSome = true) (h2 : 0 ≤ i ∧ i < n) :
    indexAddrV P t (.slice (some ⟨b, off, p⟩) n c) (.int k i) = some (.pointer (some ⟨b, off + i.toNat * eltZ (elt? P t), none⟩)) := by
  unfold indexAddrV
  cases he : elt? P t with
  | none => rw [he] at h1; simp at h1
  | some q => obtain ⟨u, z, y⟩ := q; simp only [if_pos h2, eltZ]
theorem ex_0 {v : Value} {l : List Value} : extractV (.tuple (v :: l).toArray) 0 = some v := by simp [extractV]
theorem ex_S {v : Value} {l : List Value} {n : Nat} : extractV (.tuple (v :: l).toArray) (n + 1) = extractV (.tuple l.toArray) n := by simp [extractV]
theorem len_sl {t : TypeId} {a : Option Addr} {n c : Nat} (hc : cls? P t = some .sl) : biz P h .len [t] [.slice a n c] .mk = some (.int .i64 n, h) := by
  simp only [biz, builtinV, hc]
theorem bi_max {ts : List TypeId} {k : IntKind} {x y : Int} : biz P h .max ts [.int k x, .int k y] .mk = some (.int k (mxI x y), h) := by simp [biz, builtinV, minmaxV]
def clsK (o : Option Cls) : IntKind := match o with | some (.int k) => k | _ => .i64
theorem clsK_int {k : IntKind} : clsK (some (.int k)) = k := rfl
def isI (o : Option Cls) : Bool := match o with | some (.int _) => true | _ => false
theorem isI_int {k : IntKind} : isI (some (.int k)) = true := rfl
theorem cv_int {s d : TypeId} {k : IntKind} {n : Int} (hs : isI (cls? P s) = true) (hd : isI (cls? P d) = true) : convz P h s d (.int k n) .mk = some (.int (clsK (cls? P d)) ((clsK (cls? P d)).wrap n), h) := by
  simp only [convz, convV]
  cases hs' : cls? P s with
  | none => rw [hs'] at hs; simp [isI] at hs
  | some c =>
    cases c <;> (try (rw [hs'] at hs; simp [isI] at hs; done))
    cases hd' : cls? P d with
    | none => rw [hd'] at hd; simp [isI] at hd
    | some c' => cases c' <;> first | rfl | (rw [hd'] at hd; simp [isI] at hd; done)
theorem s_neq {x y : ByteArray} : binS .neq x y = some (.bool (!(x.toList == y.toList))) := rfl
theorem s_add {x y : ByteArray} (hs : ((x.size + y.size : Nat) : Int) ≤ 9223372036854775807) : binS .add x y = some (.string (x ++ y)) := if_neg (by omega)
theorem b_neq {t : TypeId} {x y : Bool} (hc : cls? P t = some .bool) : binV P .neq t (.bool x) (.bool y) = some (.bool (!(x == y))) := by simp [binV, eqV, hc]
theorem ok_all_nil : (([] : List Value).all okCell) = true := rfl
theorem ok_all_cons {v : Value} {l : List Value} : ((v :: l).all okCell) = (okCell v && l.all okCell) := rfl
theorem ok_int {k : IntKind} {n : Int} : okCell (.int k n) = true := rfl
theorem ok_str {b : ByteArray} : okCell (.string b) = true := rfl
theorem ok_sl {a : Option Addr} {l c : Nat} : okCell (.slice a l c) = true := rfl
theorem beq_len {n : Nat} : (n == n) = true := by simp
attribute [go_sem] posN_S eltT_some eltZ_some consO_some rd_nil rd_one rd_skip wrt_nil wrt_one wrt_skip step_some fld_map fldO_some fldN_some fa_ptr ia_at ex_0 ex_S len_sl bi_max clsK_int isI_int cv_int s_neq s_add b_neq ok_all_nil ok_all_cons ok_int ok_str ok_sl beq_len Option.isSome_some List.getElem?_cons_zero List.getElem?_cons_succ List.length_cons List.length_nil Bool.and_true Bool.true_and Bool.and_self
end Go.Ai
namespace Go.Ai
variable {P : Program} {W0 : World}
def bef (l : List Oper) (i : Nat) : List Nat := match l[i]? with
  | some o => (o.after.toList.filter (Region.binds .any)).map (·.on)
  | none => []
def tmpsOf : List Operand → List Nat
  | [] => []
  | .tmp t :: r => t :: tmpsOf r
  | _ :: r => tmpsOf r
def guardSlot (l : List Oper) : Option (Nat × Bool) → List Nat
  | none => []
  | some (j, _) => match dstAt l j with | some d => [d] | none => []
def looksO (l : List Oper) (o : Oper) : List Nat := tmpsOf o.op.operands.toList ++ guardSlot l o.guard
def looks (l : List Oper) (i : Nat) : List Nat := match l[i]? with | some o => looksO l o | none => []
theorem tmpsOf_mem {t : Nat} : ∀ {l : List Operand}, Operand.tmp t ∈ l → t ∈ tmpsOf l := by
  intro l
  induction l with
  | nil => intro h; cases h
  | cons x r ih =>
    intro h
    rcases List.mem_cons.1 h with h2 | h2
    · subst h2; simp [tmpsOf]
    · have := ih h2
      cases x <;> simp [tmpsOf, this]
theorem op_congr {e e' : Env} {l : List Operand} (h : ∀ t ∈ tmpsOf l, e t = e' t) {x : Operand} (hx : x ∈ l) : e.op x = e'.op x := by
  cases x with
  | tmp t => exact h t (tmpsOf_mem hx)
  | _ => rfl
theorem guard_congr {e e' : Env} {ops : List Oper} {g : Option (Nat × Bool)} (h : ∀ t ∈ guardSlot ops g, e t = e' t) : guardOf ops e g = guardOf ops e' g := by
  cases g with
  | none => rfl
  | some q =>
    obtain ⟨j, w⟩ := q
    simp only [guardOf, guardSlot] at h ⊢
    cases hd : dstAt ops j with
    | none => rfl
    | some d => rw [hd] at h; simp only; rw [h d (by simp)]
theorem fillL_congr {place : Nat → Option (Nat × Nat)} {e e' : Env} : ∀ {l : List (Nat × Operand)} {cs : List Value}, (∀ p ∈ l, e.op p.2 = e'.op p.2) → fillL place e l cs = fillL place e' l cs
  | [], _, _ => rfl
  | (i, x) :: r, cs, h => by
    simp only [fillL]
    rw [show e.op x = e'.op x from h (i, x) (by simp)]
    split
    · split
      · split
        · exact fillL_congr fun p hp => h p (by simp [hp])
        · rfl
      · rfl
    · rfl
theorem map_op_congr {e e' : Env} {xs : List Operand} (h : ∀ x ∈ xs, e.op x = e'.op x) : xs.map e.op = xs.map e'.op := List.map_congr_left h
theorem opt_op_congr {e e' : Env} {o : Option Operand} (h : ∀ x, o = some x → e.op x = e'.op x) : o.map e.op = o.map e'.op := by
  cases o with
  | none => rfl
  | some x => simp [h x rfl]
theorem opv_congr {e e' : Env} {h : Heap} (o : Op) (hx : ∀ x ∈ o.operands.toList, e.op x = e'.op x) : opv P e h o = opv P e' h o := by
  cases o <;> (try rfl) <;> simp only [Op.operands] at hx
  case move x => simp only [opv]; rw [hx x (by simp)]
  case assign x => simp only [opv]; rw [hx x (by simp)]
  case pick c a b => simp only [opv]; rw [hx c (by simp), hx a (by simp), hx b (by simp)]
  case box t x => simp only [opv]; rw [hx x (by simp)]
  case build t ps => simp only [opv]; cases zr? P t with
    | none => rfl
    | some z => simp only; rw [fillL_congr fun p hp => hx p.2 (by simp; exact ⟨p.1, by simpa using hp⟩)]
  case buildSlice t n ps =>
    simp only [opv]
    cases elt? P t with
    | none => rfl
    | some q =>
      obtain ⟨u, z, y⟩ := q
      simp only
      cases zr? P u with
      | none => rfl
      | some zs => simp only; rw [fillL_congr fun p hp => hx p.2 (by simp; exact ⟨p.1, by simpa using hp⟩)]
  case load t x => simp only [opv]; rw [hx x (by simp)]
  case store t x y => simp only [opv]; rw [hx x (by simp), hx y (by simp)]
  case nilCheck x => simp only [opv]; rw [hx x (by simp)]
  case binOp op t x y u => simp only [opv]; rw [hx x (by simp), hx y (by simp)]
  case unOp op t x => simp only [opv]; rw [hx x (by simp)]
  case convert s d x => simp only [opv]; rw [hx x (by simp)]
  case makeFunc fn first caps =>
    cases fn <;> (try rfl)
    simp only [opv]
    have h1 : (caps.toList.all fun x => ptrV (e.op x)) = (caps.toList.all fun x => ptrV (e'.op x)) := by
      rw [Bool.eq_iff_iff, List.all_eq_true, List.all_eq_true]
      exact ⟨fun hh x hxx => by rw [← hx x (by simp; right; simpa using hxx)]; exact hh x hxx, fun hh x hxx => by rw [hx x (by simp; right; simpa using hxx)]; exact hh x hxx⟩
    rw [h1, Array.map_congr_left (xs := caps) fun x hxx => hx x (by simp; right; simpa using hxx)]
  case makeSlice t x y => simp only [opv]; rw [hx x (by simp), hx y (by simp)]
  case slice t x lo hi mx =>
    simp only [opv]
    rw [hx x (by simp), opt_op_congr (o := lo) fun y hy => hx y (by simp [hy]), opt_op_congr (o := hi) fun y hy => hx y (by simp [hy]), opt_op_congr (o := mx) fun y hy => hx y (by simp [hy])]
  case fieldAddr s x f => simp only [opv]; rw [hx x (by simp)]
  case field s x f => simp only [opv]; rw [hx x (by simp)]
  case indexAddr t x ix => simp only [opv]; rw [hx x (by simp), hx ix (by simp)]
  case index t x ix => simp only [opv]; rw [hx x (by simp), hx ix (by simp)]
  case extract x i => simp only [opv]; rw [hx x (by simp)]
  case call c =>
    obtain ⟨callee, xs, ts⟩ := c
    cases callee <;> (try rfl)
    simp only [opv]
    rw [map_op_congr fun x hxx => hx x (by simp [Call.operands]; simpa using hxx)]
theorem callOf_congr {e e' : Env} (o : Op) (hx : ∀ x ∈ o.operands.toList, e.op x = e'.op x) : callOf e o = callOf e' o := by
  cases o <;> (try rfl)
  case call c =>
    obtain ⟨callee, xs, ts⟩ := c
    cases callee <;> (try rfl)
    rename_i f
    simp only [callOf]
    rw [hx f (by simp [Op.operands, Call.operands]), map_op_congr fun x hxx => hx x (by simp [Op.operands, Call.operands]; right; simpa using hxx)]
theorem opO_congr {e e' : Env} {h : Heap} {K : Value → Heap → Prop} (o : Op) (hx : ∀ x ∈ o.operands.toList, e.op x = e'.op x) : opO P W0 e h o K = opO P W0 e' h o K := by
  unfold opO; rw [callOf_congr o hx, opv_congr o hx]
def quietO (P : Program) : Op → Bool
  | .move _ | .assign _ | .pick _ _ _ | .load _ _ | .nilCheck _ | .binOp .. | .unOp .. | .fieldAddr .. | .field .. | .indexAddr .. | .index .. | .extract .. | .slice .. | .build .. | .makeFunc .. => true
  | .convert s d _ => match cls? P s, cls? P d with | some .str, some .sl => false | _, _ => true
  | .call ⟨.builtin .len, _, _⟩ | .call ⟨.builtin .cap, _, _⟩ | .call ⟨.builtin .max, _, _⟩ | .call ⟨.builtin .min, _, _⟩ => true
  | _ => false
def pureO (P : Program) : Op → Bool
  | .load _ _ | .slice .. => false
  | .convert s d _ => match cls? P s, cls? P d with | some .sl, _ => false | _, _ => true
  | _ => true
theorem quiet_call {e : Env} {o : Op} (hq : quietO P o = true) : callOf e o = none := by
  cases o <;> (try rfl) <;> (try (simp [quietO] at hq; done))
  case call c => obtain ⟨callee, xs, ts⟩ := c; cases callee <;> first | rfl | (simp [quietO] at hq; done)
theorem map_heap {o : Option Value} {h h' : Heap} {v : Value} (hh : o.map (·, h) = some (v, h')) : h' = h ∧ ∀ h2 : Heap, o.map (·, h2) = some (v, h2) := by
  cases o with
  | none => cases hh
  | some x => simp at hh; obtain ⟨rfl, rfl⟩ := hh; exact ⟨rfl, fun _ => rfl⟩
theorem conv_quiet {s d : TypeId} {x : Value} {h h' : Heap} {v : Value} (hq : quietO P (.convert s d (.const x)) = true) (hv : convV P h s d x = some (v, h')) :
    h' = h ∧ (pureO P (.convert s d (.const x)) = true → ∀ h2, convV P h2 s d x = some (v, h2)) := by
  simp only [quietO] at hq
  simp only [pureO]
  unfold convV at hv ⊢
  cases hs : cls? P s <;> cases hd : cls? P d <;> simp only [hs, hd] at hv hq ⊢ <;> (try (cases hv; done))
  rename_i c c'
  cases c <;> cases c' <;> cases x <;> simp only at hv hq ⊢ <;> (try (cases hv; done)) <;> (try (simp at hq; done)) <;> (try (simp at hv; obtain ⟨rfl, rfl⟩ := hv; simp; done))
  all_goals
    split at hv
    · split at hv
      · cases hv; simp
      · cases hv
    · cases hv
theorem builtin_quiet {b : Builtin} {ts : List TypeId} {xs : List Value} {h h' : Heap} {v : Value} (hb : b = .len ∨ b = .cap ∨ b = .max ∨ b = .min) (hv : builtinV P h b ts xs = some (v, h')) :
    h' = h ∧ ∀ h2, builtinV P h2 b ts xs = some (v, h2) := by
  rcases hb with rfl | rfl | rfl | rfl <;> unfold builtinV at hv ⊢
  · split at hv
    all_goals first
      | (exfalso; simp_all; done)
      | (split at hv
         · rename_i hc; cases hv; exact ⟨rfl, fun h2 => by simp only [hc]⟩
         · cases hv)
  · split at hv
    all_goals first
      | (exfalso; simp_all; done)
      | (split at hv
         · rename_i hc; cases hv; exact ⟨rfl, fun h2 => by simp only [hc]⟩
         · cases hv)
  · exact map_heap hv
  · exact map_heap hv
theorem quiet_spec {e : Env} {o : Op} {h h' : Heap} {v : Value} (hq : quietO P o = true) (hv : opv P e h o = some (v, h')) :
    h' = h ∧ (pureO P o = true → ∀ h2, opv P e h2 o = some (v, h2)) := by
  cases o <;> (try (simp [quietO] at hq; done)) <;> simp only [opv] at hv ⊢
  case move x => cases hv; exact ⟨rfl, fun _ _ => rfl⟩
  case assign x => cases hv; exact ⟨rfl, fun _ _ => rfl⟩
  case pick c a b => split at hv <;> simp_all
  case build t ps =>
    split at hv
    · split at hv
      · rename_i hb; simp only [if_pos hb]
        generalize fillL (fun i => (fld? P t i).map fun p => (p.1, p.2.1)) e ps.toList _ = r at hv
        cases r with
        | none => cases hv
        | some l => simp at hv; obtain ⟨rfl, rfl⟩ := hv; exact ⟨rfl, fun _ _ => rfl⟩
      · cases hv
    · cases hv
  case load t x => exact ⟨(map_heap hv).1, fun hp => by simp [pureO] at hp⟩
  case nilCheck x => split at hv <;> simp_all
  case binOp op t x y u => exact ⟨(map_heap hv).1, fun _ => (map_heap hv).2⟩
  case unOp op t x => exact ⟨(map_heap hv).1, fun _ => (map_heap hv).2⟩
  case convert s d x => exact conv_quiet (x := e.op x) hq hv
  case makeFunc fn first caps =>
    cases fn <;> simp only [opv] at hv ⊢ <;> (try (cases hv; done))
    split at hv <;> simp_all
  case slice t x lo hi mx => exact ⟨(map_heap hv).1, fun hp => by simp [pureO] at hp⟩
  case fieldAddr s x f => exact ⟨(map_heap hv).1, fun _ => (map_heap hv).2⟩
  case field s x f => exact ⟨(map_heap hv).1, fun _ => (map_heap hv).2⟩
  case indexAddr t x ix => exact ⟨(map_heap hv).1, fun _ => (map_heap hv).2⟩
  case index t x ix => exact ⟨(map_heap hv).1, fun _ => (map_heap hv).2⟩
  case extract x i => exact ⟨(map_heap hv).1, fun _ => (map_heap hv).2⟩
  case call c =>
    obtain ⟨callee, xs, ts⟩ := c
    cases callee <;> (try (simp [quietO] at hq; done))
    rename_i b
    have hb : b = .len ∨ b = .cap ∨ b = .max ∨ b = .min := by cases b <;> simp_all [quietO]
    obtain ⟨h1, h2⟩ := builtin_quiet hb hv
    exact ⟨h1, fun _ => h2⟩
end Go.Ai
namespace Go.Ai
variable {P : Program} {W0 : World}
def effO (P : Program) (l : List Oper) (i : Nat) : Bool := match l[i]? with | some o => !quietO P o.op | none => true
def staleO (P : Program) (l : List Oper) (i : Nat) : Bool := match l[i]? with | some o => !pureO P o.op | none => false
def stays (P : Program) (l : List Oper) (q : Nat) (e : Env) (h : Heap) : Prop := match l[q]? with
  | none => True
  | some o => match guardOf l e o.guard with
    | some true => (match o.dst with | some d => opv P e h o.op = some (e d, h) | none => False)
    | some false => True
    | none => False
def runP (P : Program) (W0 : World) (l : List Oper) : List (Nat × List Nat) → Env → Heap → QT → Prop
  | [], e, h, Q => Q .normal e h
  | (i, pd) :: r, e, h, Q => match l[i]? with
    | none => False
    | some o => guarded (guardOf l e o.guard) (opO P W0 e h o.op fun v h' => (∀ q ∈ pd, stays P l q (e.putO o.dst v) h') ∧ runP P W0 l r (e.putO o.dst v) h' Q) (runP P W0 l r (e.putO o.dst undef) h Q)
def descOk (l : List Oper) : List Nat → List (Nat × List Nat) → Bool
  | _, [] => true
  | D, (k, _) :: r => (bef l k).any (fun j => D.contains j) && descOk l (k :: D) r
def ancs (l : List Oper) : List Nat → List Nat → List Nat
  | [], A => A
  | q :: r, A => ancs l r (if A.contains q then A ++ bef l q else A)
def chk (P : Program) (l : List Oper) : List Nat → List (Nat × List Nat) → Bool
  | _, [] => true
  | pre, (i, pd) :: r => !(pre.contains i) && (decide (i < l.length) && ((bef l i).all (fun j => pre.contains j) && ((!effO P l i || (descOk l [i] r &&
      (pre.all (fun q => !staleO P l q || (pd.contains q || (ancs l pre (bef l i)).contains q)) &&
       pd.all (fun q => (looks l q).all fun t => (i :: pre).all fun j => dstAt l j != some t || (bef l q).contains j)))) && chk P l (i :: pre) r)))
def glob (l : List Oper) : Bool := (List.range l.length).all fun j => match dstAt l j with
  | none => true
  | some t => (List.range l.length).all fun i => (i == j || dstAt l i != some t) && (!(looks l i).contains t || ((bef l i).contains j || (bef l j).contains i))
def okPlan (P : Program) (l : List Oper) (p : List (Nat × List Nat)) : Bool := glob l && ((List.range l.length).all (fun i => (p.map (·.1)).contains i) && chk P l [] p)
theorem dstAt_lt {l : List Oper} {j d : Nat} (h : dstAt l j = some d) : j < l.length := by
  rw [dstAt_eq] at h
  cases hx : l[j]? with
  | none => rw [hx] at h; cases h
  | some o => exact (List.getElem?_eq_some_iff.1 hx).1
theorem looks_lt {l : List Oper} {i t : Nat} (h : t ∈ looks l i) : i < l.length := by
  unfold looks at h
  cases hx : l[i]? with
  | none => rw [hx] at h; cases h
  | some o => exact (List.getElem?_eq_some_iff.1 hx).1
theorem glob_dst {l : List Oper} (g : glob l = true) {i j t : Nat} (hi : dstAt l i = some t) (hj : dstAt l j = some t) : i = j := by
  have := List.all_eq_true.1 g j (by simpa using dstAt_lt hj)
  simp only [hj] at this
  have := List.all_eq_true.1 this i (by simpa using dstAt_lt hi)
  rw [Bool.and_eq_true] at this
  have := this.1
  simp [hi] at this
  exact this
theorem glob_look {l : List Oper} (g : glob l = true) {i j t : Nat} (hi : t ∈ looks l i) (hj : dstAt l j = some t) : j ∈ bef l i ∨ i ∈ bef l j := by
  have := List.all_eq_true.1 g j (by simpa using dstAt_lt hj)
  simp only [hj] at this
  have := List.all_eq_true.1 this i (by simpa using looks_lt hi)
  rw [Bool.and_eq_true] at this
  have := this.2
  simp [hi] at this
  exact this
def Cur (l : List Oper) (X : Nat → Prop) (val : Nat → Value) (e0 e : Env) : Prop :=
  ∀ t, (∀ j, X j → dstAt l j = some t → e t = val j) ∧ ((∀ j, X j → dstAt l j ≠ some t) → e t = e0 t)
def Agree (l : List Oper) (q : Nat) (val : Nat → Value) (e0 e : Env) : Prop :=
  ∀ t ∈ looks l q, (∀ j ∈ bef l q, dstAt l j = some t → e t = val j) ∧ ((∀ j ∈ bef l q, dstAt l j ≠ some t) → e t = e0 t)
def Fine (P : Program) (l : List Oper) (q : Nat) (val : Nat → Value) (e0 : Env) (h : Heap) : Prop :=
  ∀ o, l[q]? = some o → ∀ e, Agree l q val e0 e → ∃ g, guardOf l e o.guard = some g ∧ (g = true → opv P e h o.op = some (val q, h)) ∧ (g = false → val q = undef)
theorem agree_of_cur {l : List Oper} (g : glob l = true) {X : Nat → Prop} {val : Nat → Value} {e0 e : Env} {q : Nat} (c : Cur l X val e0 e) (hb : ∀ j ∈ bef l q, X j) (hn : ∀ j, X j → q ∉ bef l j) : Agree l q val e0 e := by
  intro t ht
  refine ⟨fun j hj hd => (c t).1 j (hb j hj) hd, fun hno => (c t).2 fun j hX hd => ?_⟩
  rcases glob_look g ht hd with h1 | h1
  · exact hno j h1 hd
  · exact hn j hX h1
theorem agree_eq {l : List Oper} {val : Nat → Value} {e0 e e' : Env} {q : Nat} (a : Agree l q val e0 e) (a' : Agree l q val e0 e') : ∀ t ∈ looks l q, e t = e' t := by
  intro t ht
  by_cases hj : ∃ j ∈ bef l q, dstAt l j = some t
  · obtain ⟨j, h1, h2⟩ := hj
    rw [(a t ht).1 j h1 h2, (a' t ht).1 j h1 h2]
  · have hno : ∀ j ∈ bef l q, dstAt l j ≠ some t := fun j h1 h2 => hj ⟨j, h1, h2⟩
    rw [(a t ht).2 hno, (a' t ht).2 hno]
theorem agree_val {l : List Oper} {val val' : Nat → Value} {e0 e : Env} {q : Nat} (h : ∀ j ∈ bef l q, val' j = val j) (a : Agree l q val' e0 e) : Agree l q val e0 e := by
  intro t ht
  exact ⟨fun j hj hd => (((a t ht).1 j hj hd).trans (h j hj)), (a t ht).2⟩
theorem looks_eq {l : List Oper} {q : Nat} {o : Oper} (ho : l[q]? = some o) : looks l q = looksO l o := by simp [looks, ho]
theorem same_ops {l : List Oper} {q : Nat} {o : Oper} (ho : l[q]? = some o) {e e' : Env} (h : ∀ t ∈ looks l q, e t = e' t) :
    guardOf l e o.guard = guardOf l e' o.guard ∧ ∀ x ∈ o.op.operands.toList, e.op x = e'.op x := by
  rw [looks_eq ho] at h
  exact ⟨guard_congr fun t ht => h t (List.mem_append_right _ ht), fun x hx => op_congr (fun t ht => h t (List.mem_append_left _ ht)) hx⟩
theorem cur_add {l : List Oper} (g : glob l = true) {X : Nat → Prop} {val val' : Nat → Value} {e0 e : Env} {i : Nat} {v : Value} {o : Oper} (ho : l[i]? = some o) (hX : ¬ X i) (c : Cur l X val e0 e)
    (hv : ∀ j, X j → val' j = val j) (hi : val' i = v) : Cur l (fun j => j = i ∨ X j) val' e0 (e.putO o.dst v) := by
  have hdi : dstAt l i = o.dst := by rw [dstAt_eq, ho]; rfl
  intro t
  constructor
  · rintro j (rfl | hj) hd
    · rw [hdi] at hd; rw [hd, hi]; simp [Env.putO, Env.put]
    · have : o.dst ≠ some t := fun hh => by
        have := glob_dst g hd (hdi.trans hh); subst this; exact hX hj
      have h1 : e.putO o.dst v t = e t := by
        cases hdo : o.dst with
        | none => rfl
        | some d => simp [Env.putO, Env.put]; intro ht; subst ht; exact absurd hdo this
      rw [h1, (c t).1 j hj hd, hv j hj]
  · intro hno
    have : o.dst ≠ some t := fun hh => hno i (.inl rfl) (hdi.trans hh)
    have h1 : e.putO o.dst v t = e t := by
      cases hdo : o.dst with
      | none => rfl
      | some d => simp [Env.putO, Env.put]; intro ht; subst ht; exact absurd hdo this
    rw [h1]
    exact (c t).2 fun j hj => hno j (.inr hj)
theorem cur_imp {l : List Oper} {X Y : Nat → Prop} {val : Nat → Value} {e0 e : Env} (h : ∀ j, X j ↔ Y j) (c : Cur l X val e0 e) : Cur l Y val e0 e := by
  intro t
  exact ⟨fun j hj => (c t).1 j ((h j).2 hj), fun hno => (c t).2 fun j hj => hno j ((h j).1 hj)⟩
theorem cur_val {l : List Oper} {X : Nat → Prop} {val val' : Nat → Value} {e0 e : Env} (h : ∀ j, X j → val' j = val j) (c : Cur l X val e0 e) : Cur l X val' e0 e := by
  intro t
  exact ⟨fun j hj hd => ((c t).1 j hj hd).trans (h j hj).symm, (c t).2⟩
theorem cur_eq {l : List Oper} {X : Nat → Prop} {val : Nat → Value} {e0 e e' : Env} (c : Cur l X val e0 e) (c' : Cur l X val e0 e') : e = e' := by
  funext t
  by_cases hj : ∃ j, X j ∧ dstAt l j = some t
  · obtain ⟨j, h1, h2⟩ := hj; rw [(c t).1 j h1 h2, (c' t).1 j h1 h2]
  · have hno : ∀ j, X j → dstAt l j ≠ some t := fun j h1 h2 => hj ⟨j, h1, h2⟩
    rw [(c t).2 hno, (c' t).2 hno]
structure Inv (P : Program) (W0 : World) (l : List Oper) (nt : Nat) (e0 : Env) (Q : QT) (ι0 : Ren) (S : Nat → Prop) (dn : List Nat) (rest : List (Nat × List Nat)) (val : Nat → Value) (ec es : Env) (h : Heap) (a : Act) (w : World) : Prop where
  closed : ∀ i, S i → ∀ j ∈ bef l i, S j
  sub : ∀ i, S i → i ∈ dn
  effs : ∀ i ∈ dn, effO P l i = true → S i
  topo : ∀ d1 q d2, dn = d1 ++ q :: d2 → ∀ j ∈ bef l q, j ∈ d2
  inb : ∀ i ∈ dn, i < l.length
  full : ∀ i, i < l.length → i ∈ dn ∨ i ∈ rest.map (·.1)
  chk : chk P l dn rest = true
  cur : Cur l (· ∈ dn) val e0 ec
  curS : Cur l S val e0 es
  pend : ∀ q ∈ dn, ¬ S q → Fine P l q val e0 h
  run : runP P W0 l rest ec h Q
  sim : ∃ ι, ι0.le ι ∧ Sim P W0 ι h w ∧ RE nt ι es a
section
variable {l : List Oper} {nt : Nat} {e0 : Env} {Q : QT} {ι0 : Ren} {S : Nat → Prop} {dn : List Nat} {rest : List (Nat × List Nat)} {val : Nat → Value} {ec es : Env} {h : Heap} {a : Act} {w : World}
theorem Inv.before (I : Inv P W0 l nt e0 Q ι0 S dn rest val ec es h a w) {q : Nat} (hq : q ∈ dn) : ∀ j ∈ bef l q, j ∈ dn := by
  obtain ⟨d1, d2, rfl⟩ := List.append_of_mem hq
  intro j hj
  have := I.topo d1 q d2 rfl j hj
  simp [this]
theorem Inv.head (I : Inv P W0 l nt e0 Q ι0 S dn rest val ec es h a w) {i : Nat} {pd : List Nat} {r : List (Nat × List Nat)} (hr : rest = (i, pd) :: r) :
    i ∉ dn ∧ i < l.length ∧ (∀ j ∈ bef l i, j ∈ dn) ∧ (effO P l i = true → descOk l [i] r = true ∧
      (∀ q ∈ dn, staleO P l q = true → q ∈ pd ∨ q ∈ ancs l dn (bef l i)) ∧ ∀ q ∈ pd, ∀ t ∈ looks l q, ∀ j, j = i ∨ j ∈ dn → dstAt l j = some t → j ∈ bef l q) ∧ Go.Ai.chk P l (i :: dn) r = true := by
  have c := I.chk
  rw [hr] at c
  simp only [Go.Ai.chk, Bool.and_eq_true] at c
  obtain ⟨c1, c2, c3, c4, c5⟩ := c
  refine ⟨by simpa using c1, by simpa using c2, fun j hj => by simpa using List.all_eq_true.1 c3 j hj, fun he => ?_, c5⟩
  rw [he] at c4
  simp only [Bool.not_true, Bool.false_or, Bool.and_eq_true] at c4
  obtain ⟨d1, d2, d3⟩ := c4
  refine ⟨d1, fun q hq hs => ?_, fun q hq t ht j hj hd => ?_⟩
  · have := List.all_eq_true.1 d2 q hq
    simp [hs] at this
    exact this
  · have := List.all_eq_true.1 (List.all_eq_true.1 (List.all_eq_true.1 d3 q hq) t ht) j (by simpa using hj)
    simp [hd] at this
    exact this
theorem Inv.advance (g : glob l = true) (I : Inv P W0 l nt e0 Q ι0 S dn rest val ec es h a w) {i : Nat} {pd : List Nat} {r : List (Nat × List Nat)} (hr : rest = (i, pd) :: r) (hq : effO P l i = false) :
    ∃ val' ec', Inv P W0 l nt e0 Q ι0 S (i :: dn) r val' ec' es h a w := by
  obtain ⟨h1, h2, h3, _, h5⟩ := I.head hr
  have hrun := I.run
  rw [hr] at hrun
  simp only [runP] at hrun
  have ho : l[i]? = some l[i] := List.getElem?_eq_getElem h2
  generalize l[i] = o at ho
  rw [ho] at hrun
  simp only at hrun
  have hquiet : quietO P o.op = true := by simp [effO, ho] at hq; exact hq
  have hag : Agree l i val e0 ec := agree_of_cur g I.cur h3 fun j hj hb => h1 (I.before hj i hb)
  have hS : ¬ S i := fun hs => h1 (I.sub i hs)
  have hself : i ∉ bef l i := fun hb => h1 (h3 i hb)
  -- in both ways: a value, and what stays
  have fin : ∀ (v : Value), (∃ gg, guardOf l ec o.guard = some gg ∧ (gg = true → opv P ec h o.op = some (v, h)) ∧ (gg = false → v = undef)) → runP P W0 l r (ec.putO o.dst v) h Q →
      ∃ val' ec', Inv P W0 l nt e0 Q ι0 S (i :: dn) r val' ec' es h a w := by
    intro v hf hrn
    have hv : ∀ j, j ≠ i → (if j = i then v else val j) = val j := fun j hj => if_neg hj
    have hvd : ∀ j, j ∈ dn → (if j = i then v else val j) = val j := fun j hj => hv j fun e => h1 (e ▸ hj)
    refine ⟨fun j => if j = i then v else val j, ec.putO o.dst v, ?_⟩
    refine ⟨I.closed, fun j hj => List.mem_cons_of_mem _ (I.sub j hj), ?_, ?_, ?_, ?_, h5, ?_, cur_val (fun j hj => hvd j (I.sub j hj)) I.curS, ?_, hrn, I.sim⟩
    · intro j hj he
      rcases List.mem_cons.1 hj with rfl | hj
      · rw [hq] at he; cases he
      · exact I.effs j hj he
    · intro d1 q d2 hd j hj
      cases d1 with
      | nil => simp at hd; obtain ⟨rfl, rfl⟩ := hd; exact h3 j hj
      | cons x d1 => simp at hd; exact I.topo d1 q d2 hd.2 j hj
    · intro j hj
      rcases List.mem_cons.1 hj with rfl | hj
      · exact h2
      · exact I.inb j hj
    · intro j hj
      rcases I.full j hj with hh | hh
      · exact .inl (List.mem_cons_of_mem _ hh)
      · rw [hr] at hh
        rcases List.mem_cons.1 hh with rfl | hh
        · exact .inl (by simp)
        · exact .inr hh
    · exact cur_imp (fun j => by simp) (cur_add g ho h1 I.cur hvd (by simp))
    · intro q hqd hqs
      rcases List.mem_cons.1 hqd with rfl | hqd
      · intro o' ho' e he
        rw [ho] at ho'; cases ho'
        have he2 := agree_val (fun j hj => hv j fun e => hself (by rw [e] at hj; exact hj)) he
        obtain ⟨s1, s2⟩ := same_ops ho (agree_eq he2 hag)
        obtain ⟨gg, g1, g2, g3⟩ := hf
        exact ⟨gg, by rw [s1]; exact g1, fun hg => by rw [opv_congr _ s2]; simpa using g2 hg, fun hg => by simpa using g3 hg⟩
      · intro o' ho' e he
        have he2 := agree_val (fun j hj => hvd j (I.before hqd j hj)) he
        obtain ⟨gg, g1, g2, g3⟩ := I.pend q hqd hqs o' ho' e he2
        have : (if q = i then v else val q) = val q := hvd q hqd
        exact ⟨gg, g1, fun hg => by simp only [this]; exact g2 hg, fun hg => by simp only [this]; exact g3 hg⟩
  unfold guarded at hrun
  split at hrun
  · rename_i gg hg
    cases gg with
    | false => exact fin undef ⟨false, hg, fun hh => (by cases hh), fun _ => rfl⟩ (hrun.2 rfl)
    | true =>
      replace hrun := hrun.1 rfl
      unfold opO at hrun
      rw [quiet_call hquiet] at hrun
      simp only [andThen] at hrun
      split at hrun
      · rename_i v h' hv
        obtain ⟨rfl, _⟩ := quiet_spec hquiet hv
        exact fin v ⟨true, hg, fun _ => hv, fun hh => (by cases hh)⟩ hrun.2
      · cases hrun
  · cases hrun
theorem Inv.ahead (g : glob l = true) : ∀ (rest : List (Nat × List Nat)) (dn : List Nat) (val : Nat → Value) (ec : Env), Inv P W0 l nt e0 Q ι0 S dn rest val ec es h a w →
    ∃ dn' rest' val' ec', Inv P W0 l nt e0 Q ι0 S dn' rest' val' ec' es h a w ∧ ∀ i pd r, rest' = (i, pd) :: r → effO P l i = true := by
  intro rest
  induction rest with
  | nil => intro dn val ec I; exact ⟨dn, [], val, ec, I, fun _ _ _ hh => by cases hh⟩
  | cons p r ih =>
    intro dn val ec I
    obtain ⟨i, pd⟩ := p
    cases hq : effO P l i with
    | true => exact ⟨dn, _, val, ec, I, fun i' pd' r' hh => by cases hh; exact hq⟩
    | false =>
      obtain ⟨val', ec', I'⟩ := I.advance g rfl hq
      exact ih _ _ _ I'
theorem ancs_sub {S : Nat → Prop} (hc : ∀ i, S i → ∀ j ∈ bef l i, S j) : ∀ (d A : List Nat), (∀ j ∈ A, S j) → ∀ j ∈ ancs l d A, S j
  | [], A, h => h
  | q :: r, A, h => by
    simp only [ancs]
    refine ancs_sub hc r _ ?_
    split
    · rename_i hq
      intro j hj
      rcases List.mem_append.1 hj with hj | hj
      · exact h j hj
      · exact hc q (h q (by simpa using hq)) j hj
    · exact h
theorem desc_not {S : Nat → Prop} (hc : ∀ i, S i → ∀ j ∈ bef l i, S j) : ∀ (r : List (Nat × List Nat)) (D : List Nat), (∀ j ∈ D, ¬ S j) → descOk l D r = true → ∀ k ∈ r.map (·.1), ¬ ∀ j ∈ bef l k, S j
  | [], D, _, _, k, hk => by simp at hk
  | (q, _) :: r, D, hD, hd, k, hk => by
    simp only [descOk, Bool.and_eq_true] at hd
    have hq : ¬ ∀ j ∈ bef l q, S j := by
      intro hall
      obtain ⟨j, hj, hjD⟩ := List.any_eq_true.1 hd.1
      exact hD j (by simpa using hjD) (hall j hj)
    rcases List.mem_cons.1 hk with rfl | hk
    · exact hq
    · refine desc_not hc r (q :: D) ?_ hd.2 k hk
      intro j hj
      rcases List.mem_cons.1 hj with rfl | hj
      · exact fun hs => hq (hc _ hs)
      · exact hD j hj
theorem op_real {ops : Array Oper} {QQ : Exit → Act → World → Prop} {ι : Ren} {i : Nat} {o : Oper} (ho : ops[i]? = some o) (hok : okOper nt o = true) (re : RE nt ι es a) (s : Sim P W0 ι h w)
    {g : Bool} (hg : guardOf ops.toList es o.guard = some g) {Kv : Value → Heap → Prop} (hT : g = true → opO P W0 es h o.op Kv) {K : Act → World → Prop}
    (hK : g = true → ∀ v h', Kv v h' → ∀ ι' v' w', ι.le ι' → Sim P W0 ι' h' w' → RE nt ι' (es.putO o.dst v) (a.put o.dst v') → K (a.put o.dst v') w')
    (hF : g = false → RE nt ι (es.putO o.dst undef) (a.put o.dst undef) → K (a.put o.dst undef) w) : wpOp P ops QQ i K a w := by
  have ⟨hop, hd⟩ := okOper_dst hok
  have hw := guard_sound (ops := ops) re hg
  unfold wpOp
  rw [ho]
  simp only
  cases g with
  | false => rw [if_neg (by rw [hw]; decide)]; exact hF rfl (re.putO hd undef_R)
  | true =>
    rw [if_pos hw]
    left
    have hv := hT rfl
    unfold opO at hv
    split at hv
    · rename_i f args hc
      obtain ⟨args', hrun, hargs⟩ := call_sound re hop hc hv.1 w
      unfold Oper.wp
      rw [hrun]
      simp only [Oper.upon]
      exact (hv.2 ι w args' s hargs).mono fun e w' ⟨v, v', h', ι', h1, h2, h3, h4, h5⟩ => by subst h1; exact hK rfl v h' h5 ι' v' w' h2 h3 ((re.mono h2).putO hd h4)
    · unfold andThen at hv
      split at hv
      · rename_i v h' hov
        obtain ⟨ι', w', v', hd', h2, h3, h4⟩ := opv_sound s re hop hov
        unfold Oper.wp
        rcases hd' with hd' | ⟨hd', rfl⟩
        · rw [hd']; simp only [Oper.upon]; exact hK rfl v h' hv ι' v' w' h2 h3 ((re.mono h2).putO hd h4)
        · rw [hd']; simp only [Oper.upon]; exact hK rfl v h' hv ι' undef w' h2 h3 ((re.mono h2).putO hd h4)
      · cases hv
theorem Inv.step {ops : Array Oper} {QQ : Exit → Act → World → Prop} (hl : l = ops.toList) (hoks : ∀ o ∈ l, okOper nt o = true) (g : glob l = true) (I : Inv P W0 l nt e0 Q ι0 S dn rest val ec es h a w)
    (hhd : ∀ i pd r, rest = (i, pd) :: r → effO P l i = true) {i : Nat} (hi : i < l.length) (hni : ¬ S i) (hb : ∀ j ∈ bef l i, S j) :
    wpOp P ops QQ i (fun a' w' => ∃ dn' rest' val' ec' es' h', Inv P W0 l nt e0 Q ι0 (fun j => j = i ∨ S j) dn' rest' val' ec' es' h' a' w') a w := by
  have ho : l[i]? = some l[i] := List.getElem?_eq_getElem hi
  have hok := hoks l[i] (List.getElem_mem hi)
  generalize l[i] = o at ho hok
  have hoo : ops[i]? = some o := by rw [hl, Array.getElem?_toList] at ho; exact ho
  obtain ⟨ι, hle, hs, hre⟩ := I.sim
  have hclosed : ∀ j, (j = i ∨ S j) → ∀ k ∈ bef l j, k = i ∨ S k := by
    rintro j (rfl | hj) k hk
    · exact .inr (hb k hk)
    · exact .inr (I.closed j hj k hk)
  have hagS : Agree l i val e0 es := agree_of_cur g I.curS hb fun j hj hbj => hni (I.closed j hj i hbj)
  by_cases hd : i ∈ dn
  · -- planned ahead: its value is known
    obtain ⟨gg, g1, g2, g3⟩ := I.pend i hd hni o ho es hagS
    have hnE : effO P l i = false := by
      cases he : effO P l i with
      | false => rfl
      | true => exact (hni (I.effs i hd he)).elim
    have hquiet : quietO P o.op = true := by simp [effO, ho] at hnE; exact hnE
    have next : ∀ (v : Value) (ι' : Ren) (a' : Act) (w' : World), v = val i → ι.le ι' → Sim P W0 ι' h w' → RE nt ι' (es.putO o.dst v) a' → ∃ dn' rest' val' ec' es' h', Inv P W0 l nt e0 Q ι0 (fun j => j = i ∨ S j) dn' rest' val' ec' es' h' a' w' := by
      intro v ι' a' w' hv hle' hs' hre'
      refine ⟨dn, rest, val, ec, es.putO o.dst v, h, hclosed, ?_, fun j hj he => .inr (I.effs j hj he), I.topo, I.inb, I.full, I.chk, I.cur, cur_add g ho hni I.curS (fun _ _ => rfl) hv.symm, fun q hq hqs => I.pend q hq fun hh => hqs (.inr hh), I.run, ι', Ren.le_trans hle hle', hs', hre'⟩
      rintro j (rfl | hj)
      · exact hd
      · exact I.sub j hj
    refine op_real hoo hok hre hs (by rw [← hl]; exact g1) (Kv := fun v h' => v = val i ∧ h' = h) ?_ ?_ ?_
    · intro hg
      unfold opO
      rw [quiet_call hquiet, g2 hg]
      exact ⟨rfl, rfl⟩
    · rintro hg v h' ⟨rfl, rfl⟩ ι' v' w' hle' hs' hre'
      exact next _ ι' _ w' rfl hle' hs' hre'
    · intro hg hre'
      exact next undef ι _ w (g3 hg).symm (Ren.le_refl _) hs hre'
  · -- it is what comes next
    have hir : i ∈ rest.map (·.1) := (I.full i hi).resolve_left hd
    obtain ⟨pd, r, hr⟩ : ∃ pd r, rest = (i, pd) :: r := by
      cases hrest : rest with
      | nil => rw [hrest] at hir; cases hir
      | cons p r =>
        obtain ⟨k, pd⟩ := p
        rw [hrest] at hir
        rcases List.mem_cons.1 hir with rfl | hir
        · exact ⟨pd, r, rfl⟩
        · exfalso
          have hE := hhd k pd r hrest
          obtain ⟨k1, k2, k3, k4, k5⟩ := I.head hrest
          have hnk : ¬ S k := fun hh => k1 (I.sub k hh)
          exact desc_not I.closed r [k] (by simpa using hnk) (k4 hE).1 i hir hb
    have hE := hhd i pd r hr
    obtain ⟨k1, k2, k3, k4, k5⟩ := I.head hr
    obtain ⟨_, kp, kd⟩ := k4 hE
    have hag : Agree l i val e0 ec := agree_of_cur g I.cur k3 fun j hj hbj => k1 (I.before hj i hbj)
    obtain ⟨s1, s2⟩ := same_ops ho (agree_eq hagS hag)
    have hrun := I.run
    rw [hr] at hrun
    simp only [runP, ho] at hrun
    have hself : i ∉ bef l i := fun hh => hni (hb i hh)
    have next : ∀ (v : Value) (h' : Heap) (ι' : Ren) (a' : Act) (w' : World), runP P W0 l r (ec.putO o.dst v) h' Q → (∀ q ∈ dn, ¬ S q → Fine P l q val e0 h') → ι.le ι' → Sim P W0 ι' h' w' → RE nt ι' (es.putO o.dst v) a' →
        ∃ dn' rest' val' ec' es' h', Inv P W0 l nt e0 Q ι0 (fun j => j = i ∨ S j) dn' rest' val' ec' es' h' a' w' := by
      intro v h' ι' a' w' hrn hfine hle' hs' hre'
      have hv : ∀ j, j ≠ i → (if j = i then v else val j) = val j := fun j hj => if_neg hj
      have hvd : ∀ j, j ∈ dn → (if j = i then v else val j) = val j := fun j hj => hv j fun e => k1 (e ▸ hj)
      refine ⟨i :: dn, r, fun j => if j = i then v else val j, ec.putO o.dst v, es.putO o.dst v, h', hclosed, ?_, ?_, ?_, ?_, ?_, k5, ?_, ?_, ?_, hrn, ι', Ren.le_trans hle hle', hs', hre'⟩
      · rintro j (rfl | hj)
        · simp
        · exact List.mem_cons_of_mem _ (I.sub j hj)
      · intro j hj he
        rcases List.mem_cons.1 hj with rfl | hj
        · exact .inl rfl
        · exact .inr (I.effs j hj he)
      · intro d1 q d2 hd j hj
        cases d1 with
        | nil => simp at hd; obtain ⟨rfl, rfl⟩ := hd; exact k3 j hj
        | cons x d1 => simp at hd; exact I.topo d1 q d2 hd.2 j hj
      · intro j hj
        rcases List.mem_cons.1 hj with rfl | hj
        · exact k2
        · exact I.inb j hj
      · intro j hj
        rcases I.full j hj with hh | hh
        · exact .inl (List.mem_cons_of_mem _ hh)
        · rw [hr] at hh
          rcases List.mem_cons.1 hh with rfl | hh
          · exact .inl (by simp)
          · exact .inr hh
      · exact cur_imp (fun j => by simp) (cur_add g ho k1 I.cur hvd (by simp))
      · exact cur_add g ho hni I.curS (fun j hj => hvd j (I.sub j hj)) (by simp)
      · intro q hqd hqs
        rcases List.mem_cons.1 hqd with rfl | hqd
        · exact (hqs (.inl rfl)).elim
        · intro o' ho' e he
          have he2 := agree_val (fun j hj => hvd j (I.before hqd j hj)) he
          obtain ⟨gg, g1, g2, g3⟩ := hfine q hqd (fun hh => hqs (.inr hh)) o' ho' e he2
          have : (if q = i then v else val q) = val q := hvd q hqd
          exact ⟨gg, g1, fun hg => by simp only [this]; exact g2 hg, fun hg => by simp only [this]; exact g3 hg⟩
    unfold guarded at hrun
    split at hrun
    · rename_i gg hg
      refine op_real hoo hok hre hs (g := gg) (by rw [← hl, s1]; exact hg) (Kv := fun v h' => (∀ q ∈ pd, stays P l q (ec.putO o.dst v) h') ∧ runP P W0 l r (ec.putO o.dst v) h' Q) ?_ ?_ ?_
      · intro hgg; rw [opO_congr _ s2]; exact hrun.1 hgg
      · rintro hgg v h' ⟨hst, hrn⟩ ι' v' w' hle' hs' hre'
        refine next v h' ι' _ w' hrn ?_ hle' hs' hre'
        intro q hqd hqs o' ho' e he
        obtain ⟨g0, g1, g2, g3⟩ := I.pend q hqd hqs o' ho' e he
        have hqE : quietO P o'.op = true := by
          have : effO P l q = false := by
            cases hh : effO P l q with
            | false => rfl
            | true => exact (hqs (I.effs q hqd hh)).elim
          simpa [effO, ho'] using this
        refine ⟨g0, g1, fun hg0 => ?_, g3⟩
        have hold := g2 hg0
        cases hp : pureO P o'.op with
        | true => exact (quiet_spec hqE hold).2 hp h'
        | false =>
          have hstale : staleO P l q = true := by simp [staleO, ho', hp]
          have hqpd : q ∈ pd := by
            rcases kp q hqd hstale with hh | hh
            · exact hh
            · exact (hqs (ancs_sub I.closed dn _ hb q hh)).elim
          -- the environment behind it looks the same to q
          have hagq : Agree l q val e0 (ec.putO o.dst v) := by
            intro t ht
            have hno : o.dst ≠ some t := by
              intro hdt
              have hdi : dstAt l i = some t := by rw [dstAt_eq, ho]; exact hdt
              exact k1 (I.before hqd i (kd q hqpd t ht i (.inl rfl) hdi))
            have hput : ec.putO o.dst v t = ec t := by
              cases hdo : o.dst with
              | none => rfl
              | some d => simp [Env.putO, Env.put]; intro htd; subst htd; exact absurd hdo hno
            rw [hput]
            exact ⟨fun j hj hdj => (I.cur t).1 j (I.before hqd j hj) hdj, fun hno2 => (I.cur t).2 fun j hj hdj => hno2 j (kd q hqpd t ht j (.inr hj) hdj) hdj⟩
          obtain ⟨q1, q2⟩ := same_ops ho' (agree_eq he hagq)
          have hs3 := hst q hqpd
          unfold stays at hs3
          rw [ho'] at hs3
          simp only at hs3
          rw [← q1, g1, hg0] at hs3
          simp only at hs3
          rw [← opv_congr _ q2] at hs3
          cases hdq : o'.dst with
          | none =>
            rw [hdq] at hs3
            exact hs3.elim
          | some d =>
            rw [hdq] at hs3
            simp only at hs3
            have hval : ec.putO o.dst v d = val q := by
              have hdq' : dstAt l q = some d := by rw [dstAt_eq, ho']; exact hdq
              have hno : o.dst ≠ some d := by
                intro hdd
                have hdi : dstAt l i = some d := by rw [dstAt_eq, ho]; exact hdd
                exact k1 ((glob_dst g hdi hdq') ▸ hqd)
              have hput : ec.putO o.dst v d = ec d := by
                cases hdo : o.dst with
                | none => rfl
                | some d' => simp [Env.putO, Env.put]; intro htd; subst htd; exact absurd hdo hno
              rw [hput]; exact (I.cur d).1 q hqd hdq'
            rw [hval] at hs3; exact hs3
      · intro hgg hre'
        refine next undef h ι _ w (hrun.2 hgg) (fun q hqd hqs => I.pend q hqd hqs) (Ren.le_refl _) hs hre'
    · cases hrun
end
end Go.Ai
namespace Go.Ai
variable {P : Program} {W0 : World}
theorem last_not {X : Nat → Prop} : ∀ (l : List Nat), (∃ q ∈ l, ¬ X q) → ∃ d1 q d2, l = d1 ++ q :: d2 ∧ ¬ X q ∧ ∀ j ∈ d2, X j
  | [], h => by obtain ⟨q, hq, _⟩ := h; cases hq
  | x :: l, h => by
    by_cases hl : ∃ q ∈ l, ¬ X q
    · obtain ⟨d1, q, d2, h1, h2, h3⟩ := last_not l hl
      exact ⟨x :: d1, q, d2, by rw [h1]; rfl, h2, h3⟩
    · obtain ⟨q, hq, hx⟩ := h
      rcases List.mem_cons.1 hq with rfl | hq
      · exact ⟨[], q, l, rfl, hx, fun j hj => Classical.not_not.1 fun hn => hl ⟨j, hj, hn⟩⟩
      · exact (hl ⟨q, hq, hx⟩).elim
section
variable {l : List Oper} {nt : Nat} {e0 : Env} {Q : QT} {ι0 : Ren} {S : Nat → Prop} {dn : List Nat} {rest : List (Nat × List Nat)} {val : Nat → Value} {ec es : Env} {h : Heap} {a : Act} {w : World}
theorem Inv.exists_ready (I : Inv P W0 l nt e0 Q ι0 S dn rest val ec es h a w) (hex : ∃ i, i < l.length ∧ ¬ S i) : ∃ i, i < l.length ∧ ¬ S i ∧ ∀ j ∈ bef l i, S j := by
  by_cases hd : ∃ q ∈ dn, ¬ S q
  · obtain ⟨d1, q, d2, h1, h2, h3⟩ := last_not dn hd
    exact ⟨q, I.inb q (by rw [h1]; simp), h2, fun j hj => h3 j (I.topo d1 q d2 h1 j hj)⟩
  · have hall : ∀ q ∈ dn, S q := fun q hq => Classical.not_not.1 fun hn => hd ⟨q, hq, hn⟩
    obtain ⟨i, hi, hn⟩ := hex
    have hir := (I.full i hi).resolve_left fun hh => hn (hall i hh)
    cases hrest : rest with
    | nil => rw [hrest] at hir; cases hir
    | cons p r =>
      obtain ⟨k, pd⟩ := p
      obtain ⟨k1, k2, k3, _⟩ := I.head hrest
      exact ⟨k, k2, fun hh => k1 (I.sub k hh), fun j hj => hall j (k3 j hj)⟩
theorem Inv.finish (I : Inv P W0 l nt e0 Q ι0 S dn rest val ec es h a w) (hall : ∀ i, i < l.length → S i) : Post P W0 nt ι0 Q .normal a w := by
  have hr : rest = [] := by
    cases hrest : rest with
    | nil => rfl
    | cons p r =>
      obtain ⟨k, pd⟩ := p
      obtain ⟨k1, k2, _⟩ := I.head hrest
      exact (k1 (I.sub k (hall k k2))).elim
  have hrun := I.run
  rw [hr] at hrun
  simp only [runP] at hrun
  have hee : ec = es := cur_eq I.cur (cur_imp (fun j => ⟨fun hj => I.sub j hj, fun hj => hall j (I.inb j hj)⟩) I.curS)
  obtain ⟨ι, h1, h2, h3⟩ := I.sim
  exact ⟨.normal, es, h, ι, rfl, h1, h2, h3, hee ▸ hrun⟩
theorem mem_ready {ops : Array Oper} {listed : Array Bool} (hs : listed.size = ops.size) {i : Nat} : i ∈ Region.ready .any ops listed ↔ i < ops.size ∧ listed.getD i false = false ∧ ∀ j ∈ bef ops.toList i, listed.getD j false = true := by
  unfold Region.ready bef
  rw [List.mem_filter, List.mem_range, Bool.and_eq_true]
  constructor
  · rintro ⟨h1, h2, h3⟩
    have ho : ops[i]? = some ops[i] := Array.getElem?_eq_getElem h1
    refine ⟨h1, by simp [Array.getD_eq_getD_getElem?, Array.getElem?_eq_getElem (show i < listed.size by omega)] at h2 ⊢; exact h2, ?_⟩
    rw [ho] at h3
    rw [Array.getElem?_toList, ho]
    simp only [Option.map_some, Option.getD_some] at h3 ⊢
    intro j hj
    obtain ⟨e, he, rfl⟩ := List.mem_map.1 hj
    obtain ⟨he1, he2⟩ := List.mem_filter.1 he
    have := Array.all_eq_true_iff_forall_mem.1 h3 e (by simpa using he1)
    simpa [he2] using this
  · rintro ⟨h1, h2, h3⟩
    have ho : ops[i]? = some ops[i] := Array.getElem?_eq_getElem h1
    refine ⟨h1, by simp [Array.getD_eq_getD_getElem?, Array.getElem?_eq_getElem (show i < listed.size by omega)] at h2 ⊢; exact h2, ?_⟩
    rw [Array.getElem?_toList, ho] at h3
    rw [ho]
    simp only [Option.map_some, Option.getD_some] at h3 ⊢
    refine Array.all_eq_true_iff_forall_mem.2 fun e he => ?_
    cases hb : Region.binds .any e with
    | false => simp
    | true => simpa using h3 e.on (List.mem_map.2 ⟨e, List.mem_filter.2 ⟨by simpa using he, hb⟩, rfl⟩)
theorem Inv.any {ops : Array Oper} (hl : l = ops.toList) (hoks : ∀ o ∈ l, okOper nt o = true) (g : glob l = true) : ∀ (fuel : Nat) (listed : Array Bool) (dn : List Nat) (rest : List (Nat × List Nat)) (val : Nat → Value) (ec es : Env) (h : Heap) (a : Act) (w : World),
    listed.size = ops.size → ((List.range l.length).filter fun i => !(listed.getD i false)).length ≤ fuel →
    Inv P W0 l nt e0 Q ι0 (fun i => listed.getD i false = true) dn rest val ec es h a w → wpAny P .any ops (Post P W0 nt ι0 Q) fuel listed a w := by
  have hlen : l.length = ops.size := by rw [hl]; simp
  intro fuel
  induction fuel with
  | zero =>
    intro listed dn rest val ec es h a w hsz hf I
    have hall : ∀ i, i < l.length → listed.getD i false = true := by
      intro i hi
      have : i ∉ (List.range l.length).filter fun i => !(listed.getD i false) := by
        rw [List.eq_nil_of_length_eq_zero (Nat.le_zero.1 hf)]; simp
      simpa [List.mem_filter, hi] using this
    refine ⟨?_, I.finish hall⟩
    rw [List.eq_nil_iff_forall_not_mem]
    intro i hi
    obtain ⟨h1, h2, _⟩ := (mem_ready hsz).1 hi
    rw [hall i (by omega)] at h2; cases h2
  | succ fuel ih =>
    intro listed dn rest val ec es h a w hsz hf I
    constructor
    · intro hr
      refine I.finish fun i hi => Classical.not_not.1 fun hn => ?_
      obtain ⟨k, h1, h2, h3⟩ := I.exists_ready ⟨i, hi, hn⟩
      have : k ∈ Region.ready .any ops listed := (mem_ready hsz).2 ⟨by omega, by simpa using h2, by rw [← hl]; exact h3⟩
      rw [hr] at this; cases this
    · intro i hi
      obtain ⟨h1, h2, h3⟩ := (mem_ready hsz).1 hi
      obtain ⟨dn', rest', val', ec', I', hhd⟩ := I.ahead g
      refine wpOp_mono ?_ (I'.step (QQ := Post P W0 nt ι0 Q) hl hoks g hhd (by omega) (by simp [h2]) (by rw [hl]; exact h3))
      rintro a' w' ⟨dn2, rest2, val2, ec2, es2, h2', I2⟩
      have hS : (fun j => j = i ∨ listed.getD j false = true) = fun j => (listed.setIfInBounds i true).getD j false = true := by
        funext j
        simp only [Array.getD_eq_getD_getElem?, Array.getElem?_setIfInBounds]
        by_cases hj : i = j
        · subst hj; simp [show i < listed.size by omega]
        · have hj' : ¬ j = i := fun e => hj e.symm
          simp [hj, hj']
      rw [hS] at I2
      refine ih _ _ _ _ _ _ _ _ _ (by simpa using hsz) ?_ I2
      have hfe : ((List.range l.length).filter fun j => !((listed.setIfInBounds i true).getD j false)) = ((List.range l.length).filter fun j => !(listed.getD j false)).filter fun j => decide (j ≠ i) := by
        rw [List.filter_filter]
        apply List.filter_congr
        intro j _
        have := congrFun hS j
        by_cases hj : j = i
        · subst hj; simp [Array.getD_eq_getD_getElem?, show j < listed.size by omega]
        · have e1 : (listed.setIfInBounds i true).getD j false = listed.getD j false := by
            simp only [Array.getD_eq_getD_getElem?, Array.getElem?_setIfInBounds, if_neg (fun hh : i = j => hj hh.symm)]
          rw [e1]; simp [hj]
      rw [hfe]
      have hlt : (((List.range l.length).filter fun j => !(listed.getD j false)).filter fun j => decide (j ≠ i)).length < ((List.range l.length).filter fun j => !(listed.getD j false)).length := by
        rw [List.length_filter_lt_length_iff_exists]
        exact ⟨i, List.mem_filter.2 ⟨by simp; omega, by simp [h2]⟩, by simp⟩
      omega
end
def DQ (P : Program) (W0 : World) : DT := fun l e h Q => ∃ p, okPlan P l p = true ∧ runP P W0 l p e h Q
theorem sound_DQ {nt : Nat} (hm : P.follows .mixedOrders = true) : SoundD P W0 nt (DQ P W0) fun _ => true := by
  intro id ops e h Q hoks _ hD ι a w hs hr
  obtain ⟨p, hp, hrun⟩ := hD
  simp only [okPlan, Bool.and_eq_true] at hp
  obtain ⟨g, hfull, hchk⟩ := hp
  refine wp_region_any hm ?_
  have hs' : Sim P W0 ι h { w with drawn := w.drawn + 1 } := ⟨hs.base, hs.size, hs.dom, hs.own, hs.live, hs.wr, hs.ro, hs.nle, hs.inj, hs.cell, hs.env⟩
  have hrep : ∀ i, (Array.replicate ops.size false).getD i false = false := by
    intro i; simp only [Array.getD_eq_getD_getElem?, Array.getElem?_replicate]; split <;> rfl
  refine Inv.any (l := ops.toList) (e0 := e) rfl hoks g ops.size _ [] p (fun _ => undef) e e h a _ (by simp) ?_ ?_
  · refine Nat.le_trans (List.length_filter_le _ _) (by simp)
  · refine ⟨?_, ?_, ?_, ?_, ?_, ?_, hchk, ?_, ?_, ?_, hrun, ι, Ren.le_refl _, hs', hr⟩
    · intro i hi; simp only [hrep] at hi; cases hi
    · intro i hi; simp only [hrep] at hi; cases hi
    · intro i hi; cases hi
    · intro d1 q d2 hd; cases d1 <;> cases hd
    · intro i hi; cases hi
    · intro i hi
      have := List.all_eq_true.1 hfull i (by simpa using hi)
      exact .inr (by simpa using this)
    · intro t; exact ⟨fun j hj => (by cases hj), fun _ => rfl⟩
    · intro t; exact ⟨fun j hj => (by simp only [hrep] at hj; cases hj), fun _ => rfl⟩
    · intro q hq; cases hq
end Go.Ai
namespace Go.Ai
variable {P : Program} {W0 : World} {e : Env} {h : Heap} {Q : QT} {K : KT}
def runz (P : Program) (W0 : World) (l : List Oper) (p : List (Nat × List Nat)) (e : Env) (h : Heap) (Q : QT) (_ : Hold (l, p, e, h, Q)) : Prop := runP P W0 l p e h Q
def atz (l : List Oper) (i : Nat) (_ : Hold l) : Option Oper := l[i]?
theorem at0 {o : Oper} {l : List Oper} : atz (o :: l) 0 .mk = some o := rfl
theorem atS {o : Oper} {l : List Oper} {i : Nat} : atz (o :: l) (i + 1) .mk = atz l i .mk := by simp [atz]
def rK (P : Program) (W0 : World) (l : List Oper) (pd : List Nat) (r : List (Nat × List Nat)) (d : Option Tmp) (e : Env) (Q : QT) : KT :=
  fun v h' => (∀ q ∈ pd, stays P l q (e.putO d v) h') ∧ runP P W0 l r (e.putO d v) h' Q
def opzz (P : Program) (W0 : World) (l : List Oper) (o : Option Oper) (pd : List Nat) (r : List (Nat × List Nat)) (e : Env) (h : Heap) (Q : QT) (_ : Hold (l, pd, r, e, h, Q)) : Prop := match o with
  | none => False
  | some o => guarded (guardOf l e o.guard) (opO P W0 e h o.op (rK P W0 l pd r o.dst e Q)) (runP P W0 l r (e.putO o.dst undef) h Q)
theorem run_nil {l : List Oper} : runz P W0 l [] e h Q .mk = qz Q .normal e h .mk := rfl
theorem run_cons {l : List Oper} {i : Nat} {pd : List Nat} {r : List (Nat × List Nat)} : runz P W0 l ((i, pd) :: r) e h Q .mk = opzz P W0 l (atz l i .mk) pd r e h Q .mk := rfl
theorem op_plain {l : List Oper} {pd : List Nat} {r : List (Nat × List Nat)} {d : Option Tmp} {o : Op} {t : TypeId} {p : String} {a : Array Edge} :
    opzz P W0 l (some ⟨d, o, t, p, a, none⟩) pd r e h Q .mk = xz P W0 o e h (rK P W0 l pd r d e Q) .mk := by
  show gate true (opO P W0 e h o (rK P W0 l pd r d e Q)) _ = opO P W0 e h o (rK P W0 l pd r d e Q)
  simp only [gate]; exact propext ⟨fun hh => hh.1 trivial, fun hh => ⟨fun _ => hh, fun hf => absurd hf (by simp)⟩⟩
theorem op_guard {l : List Oper} {pd : List Nat} {r : List (Nat × List Nat)} {d : Option Tmp} {o : Op} {t : TypeId} {p : String} {a : Array Edge} {j : Nat} {b : Bool} :
    opzz P W0 l (some ⟨d, o, t, p, a, some (j, b)⟩) pd r e h Q .mk = gd (guardOf l e (some (j, b))) (xz P W0 o e h (rK P W0 l pd r d e Q) .mk) (runz P W0 l r (e.putO d undef) h Q .mk) .mk := rfl
def andz (A B : Prop) (_ : Hold (A, B)) : Prop := A ∧ B
theorem kz_r0 {l : List Oper} {r : List (Nat × List Nat)} {d : Option Tmp} {v : Value} : kz (rK P W0 l [] r d e Q) v h .mk = runz P W0 l r (e.putO d v) h Q .mk := by
  simp [kz, rK, runz]
theorem kz_r1 {l : List Oper} {q : Nat} {pd : List Nat} {r : List (Nat × List Nat)} {d : Option Tmp} {v : Value} : kz (rK P W0 l (q :: pd) r d e Q) v h .mk = andz (∀ x ∈ q :: pd, stays P l x (e.putO d v) h) (runz P W0 l r (e.putO d v) h Q .mk) .mk := rfl
theorem dq_intro {cp : Nat → Option (List Nat)} {l : List Oper} (p : List (Nat × List Nat)) (hp : okPlan P l p = true) (hr : runz P W0 l p e h Q .mk) : drz ⟨DQ P W0, cp⟩ l e h Q .mk := ⟨p, hp, hr⟩
def stayz (P : Program) (o : Option Oper) (l : List Oper) (e : Env) (h : Heap) (_ : Hold (l, e, h)) : Prop := match o with
  | none => True
  | some o => match guardOf l e o.guard with
    | some true => (match o.dst with | some d => opv P e h o.op = some (e d, h) | none => False)
    | some false => True
    | none => False
theorem stay_load {l : List Oper} {d t : Nat} {ty : TypeId} {x : Operand} {p : String} {a : Array Edge} : stayz P (some ⟨some d, .load t x, ty, p, a, none⟩) l e h .mk = (loadz P h t (opz e x .mk) .mk = some (look e d .mk)) := by
  simp only [stayz, guardOf, opv, loadz, opz, look]
  cases loadV P h t (e.op x) <;> simp
theorem start (cp : List (List Nat)) {f : FuncId} {fn : Func} {c : Code} (hm : P.follows .mixedOrders = true) (hf : P.funcs[f]? = some fn) (hb : fn.body = some c)
    (hn : (fn.name != "runtime.NumGoroutine") = true) (hok : okCode fn.ntmps (fun _ => true) c = true) {rs : List ResultVar} (hrs : fn.results.toList = rs) {args : List Value} {nt : Nat} (hnt : fn.ntmps = nt) (hlen : args.length ≤ nt)
    (hv : cz P W0 ⟨DQ P W0, cpL cp⟩ c (rootEnv args) h (ends P rs K) .mk) : WC P W0 f args h K := WC_start (D := ⟨DQ P W0, cpL cp⟩) (sound_DQ hm) hf hb hn hok hrs hnt hlen hv
attribute [go_sem] at0 atS run_nil run_cons op_plain op_guard kz_r1 stay_load
end Go.Ai
namespace Go.Ai
theorem wrap_i64' {x : Int} : IntKind.i64.wrap x = if 9223372036854775808 ≤ x % 18446744073709551616 then x % 18446744073709551616 - 18446744073709551616 else x % 18446744073709551616 := by
  simp [IntKind.wrap, IntKind.signed, IntKind.bits]
theorem wrap_i64 {x : Int} (h1 : -9223372036854775808 ≤ x) (h2 : x < 9223372036854775808) : IntKind.i64.wrap x = x := by
  rw [wrap_i64']; split <;> omega
theorem wrap_u8 {x : Int} : IntKind.u8.wrap x = x % 256 := by
  simp [IntKind.wrap, IntKind.signed, IntKind.bits]
end Go.Ai
namespace Go.Ai
variable {P : Program} {W0 : World} {D : Rules} {e : Env} {h : Heap} {Q : QT} {K : KT}
theorem Heap.le.keep {h h' : Heap} (l : h.le h') : ∀ b, b < hn h .mk → hg h' b .mk = hg h b .mk := fun b hb => l.2 b hb
theorem Heap.le.n {h h' : Heap} (l : h.le h') : hn h .mk ≤ hn h' .mk := l.1
theorem lt_S {a b : Nat} (h : a < b) : (a < b + 1) = True := eq_true (by omega)
theorem lt_self' {a : Nat} : (a < a + 1) = True := eq_true (by omega)
theorem beq_S1 {a : Nat} : (a + 1 == a) = false := by simp
theorem beq_S2 {a : Nat} : (a + 1 + 1 == a) = false := by simp; omega
theorem beq_S3 {a : Nat} : (a + 1 + 1 + 1 == a) = false := by simp; omega
theorem beq_S4 {a : Nat} : (a + 1 + 1 + 1 + 1 == a) = false := by simp; omega
theorem beq_SS {a b : Nat} : (a + 1 == b + 1) = (a == b) := by rw [Bool.eq_iff_iff]; simp
theorem beq_R1 {a : Nat} : (a == a + 1) = false := by simp
theorem beq_R2 {a : Nat} : (a == a + 1 + 1) = false := by simp; omega
theorem beq_R3 {a : Nat} : (a == a + 1 + 1 + 1) = false := by simp; omega
theorem beq_R4 {a : Nat} : (a == a + 1 + 1 + 1 + 1) = false := by simp; omega
theorem le_set {h h' : Heap} {b : Nat} {k : Blk} (l : h.le h') (hb : hn h .mk ≤ b) : h.le (h'.set b k) :=
  ⟨l.1, fun c hc => by have : ¬ c = b := by unfold hn at hb; omega
                       simp only [Heap.set, if_neg this]; exact l.2 c hc⟩
theorem le_push {h h' : Heap} {k : Blk} (l : h.le h') : h.le (h'.push k) := Heap.le_trans l (Heap.le_push _ _)
theorem le_kill {h h' : Heap} {b : Nat} (l : h.le h') (hb : hn h .mk ≤ b) : h.le (h'.kill b) :=
  ⟨l.1, fun c hc => by have : ¬ c = b := by unfold hn at hb; omega
                       simp only [Heap.kill, if_neg this]; exact l.2 c hc⟩
theorem make_intro {t u z y : Nat} {zs : List Value} {l : Int} (he : elt? P t = some (u, z, y)) (hz : zr? P u = some zs) (h1 : zs.length = z ∧ 0 < z) (h2 : 0 ≤ l ∧ l.toNat * (y + 1) ≤ most)
    (hk : kz K (.slice (some ⟨hn h .mk, 0, none⟩) l.toNat l.toNat) (h.push ⟨true, z, repL l.toNat zs⟩) .mk) : az (makez P h t (.int .i64 l) (.int .i64 l) .mk) K .mk := by
  have : makez P h t (.int .i64 l) (.int .i64 l) .mk = some (.slice (some ⟨h.n, 0, none⟩) l.toNat l.toNat, h.push ⟨true, z, repL l.toNat zs⟩) := by
    simp only [makez, makeSliceV, he, hz]
    rw [if_pos ⟨h1.1, h1.2, trivial, h2.1, h2.2⟩]
  rw [this]; exact hk
theorem rep_one {n : Nat} {v : Value} : repL n [v] = List.replicate n v := by
  induction n with
  | zero => rfl
  | succ n ih => rw [rep_S, ih]; rfl
theorem wrt_set {cs : List Value} {o : Nat} {v : Value} (ho : o < cs.length) : wrt cs o [v] = some (cs.set o v) := by
  simp only [wrt, List.length_cons, List.length_nil]
  rw [if_pos (by omega)]
  congr 1
  rw [List.set_eq_take_append_cons_drop, if_pos ho]
  simp
attribute [go_sem] lt_S lt_self' beq_S1 beq_S2 beq_S3 beq_S4 beq_SS beq_R1 beq_R2 beq_R3 beq_R4
end Go.Ai
namespace Go.Ai
variable {P : Program} {W0 : World} {D : Rules} {e : Env} {h : Heap} {Q : QT} {K : KT}
def blockOf : Value → Option Nat
  | .slice (some a) _ _ => some a.block
  | _ => none
def Own (N : Nat) (h : Heap) (v : Value) (z n : Nat) (cs : List Value) : Prop :=
  cs.length = n * z ∧ ∃ a c, v = .slice a n c ∧ ((a = none ∧ n = 0) ∨ ∃ b, a = some ⟨b, 0, none⟩ ∧ N ≤ b ∧ b < hn h .mk ∧ hg h b .mk = some ⟨true, z, cs⟩)
theorem Own.keep {N : Nat} {h h' : Heap} {v : Value} {z n : Nat} {cs : List Value} (o : Own N h v z n cs) (l : h.le h') : Own N h' v z n cs := by
  obtain ⟨h1, a, c, h2, h3⟩ := o
  refine ⟨h1, a, c, h2, h3.imp_right ?_⟩
  rintro ⟨b, e1, e2, e3, e4⟩
  exact ⟨b, e1, e2, Nat.lt_of_lt_of_le e3 l.n, by rw [l.keep b e3]; exact e4⟩
theorem Own.nil {N : Nat} {h : Heap} {z c : Nat} : Own N h (.slice none 0 c) z 0 [] := ⟨by simp, none, c, rfl, .inl ⟨rfl, rfl⟩⟩
theorem append_own {t u T z y N n b2 c2 z2 : Nat} {w2 : Bool} {zs cs news : List Value} {x : Value} (he : elt? P t = some (T, z + 1, y)) (hz : zr? P T = some zs) (hl : zs.length = z + 1) (hu : cls? P u = some .sl)
    (hx : Own N h x (z + 1) n cs) (hN0 : N ≤ hn h .mk) (hn0 : (n + 1) * (y + 1) ≤ most) (h2 : hg h b2 .mk = some ⟨w2, z2, news⟩) (hnl : news.length = z + 1) (hok : news.all okCell = true)
    (hk : ∀ v' h', Own N h' v' (z + 1) (n + 1) (cs ++ news) → hn h .mk ≤ hn h' .mk → (∀ h0 : Heap, hn h0 .mk ≤ N → h0.le h → h0.le h') → (∀ b, b < hn h .mk → blockOf x ≠ some b → hg h' b .mk = hg h b .mk) → kz K v' h' .mk) :
    az (biz P h .append [t, u] [x, .slice (some ⟨b2, 0, none⟩) 1 c2] .mk) K .mk := by
  obtain ⟨hlen, a, c, rfl, hcase⟩ := hx
  have h2' : h.get b2 = some ⟨w2, z2, news⟩ := h2
  have hrd : rd news 0 (1 * (z + 1)) = some news := by rw [rd_all]; omega
  rcases hcase with ⟨rfl, rfl⟩ | ⟨b, rfl, hNb, hbn, hb⟩
  · have hcs : cs = [] := List.eq_nil_of_length_eq_zero (by omega)
    subst hcs
    have e1 : biz P h .append [t, u] [.slice none 0 c, .slice (some ⟨b2, 0, none⟩) 1 c2] .mk = some (.slice (some ⟨h.n, 0, none⟩) 1 1, h.push ⟨true, z + 1, news⟩) := by
      simp only [biz, builtinV, hu, if_true, appendV, he, srcV, h2', hrd, Option.map_some, hz]
      rw [if_pos ⟨hl, hn0, hok⟩, if_neg (by decide)]
    rw [e1]
    have hmk : (h.n == h.n) = true := by simp
    refine hk _ _ ⟨by simp; omega, _, _, rfl, .inr ⟨h.n, rfl, ?_, ?_, ?_⟩⟩ ?_ ?_ ?_
    · exact hN0
    · simp [hn, Heap.push]
    · simp [hg, Heap.push]
    · simp [hn, Heap.push]
    · intro h0 _ l0; exact le_push l0
    · intro b' hb' _
      simp only [hg, Heap.push]; rw [if_neg (by unfold hn at hb'; omega)]
  · have hb' : h.get b = some ⟨true, z + 1, cs⟩ := hb
    have e1 : biz P h .append [t, u] [.slice (some ⟨b, 0, none⟩) n c, .slice (some ⟨b2, 0, none⟩) 1 c2] .mk = some (.slice (some ⟨h.n, 0, none⟩) (n + 1) (n + 1), (h.kill b).push ⟨true, z + 1, cs ++ news⟩) := by
      simp only [biz, builtinV, hu, if_true, appendV, he, srcV, h2', hrd, Option.map_some, hz, hb']
      rw [if_pos ⟨hl, hn0, hok⟩, if_neg (by decide), if_pos ⟨trivial, trivial, trivial⟩, rd_all hlen]
      rfl
    rw [e1]
    have hne : ¬ b = h.n := by unfold hn at hbn; omega
    refine hk _ _ ⟨by simp [hlen, hnl, Nat.add_mul], _, _, rfl, .inr ⟨h.n, rfl, ?_, ?_, ?_⟩⟩ ?_ ?_ ?_
    · unfold hn at hbn; omega
    · simp [hn, Heap.push, Heap.kill]
    · simp [hg, Heap.push, Heap.kill]
    · simp [hn, Heap.push, Heap.kill]
    · intro h0 hN l0; exact le_push (le_kill l0 (by omega))
    · intro b' hb2 hne'
      have hbb : ¬ b' = b := fun e => hne' (by rw [e]; rfl)
      have h5 : ¬ b' = h.n := by unfold hn at hb2; omega
      simp [hg, Heap.push, Heap.kill, h5, hbb]
end Go.Ai
end
