/- The abstract machine, part 10: what code must meet ('vcC'), and that code that meets it does so in the model's worlds. Nothing about the program stands here. -/
import Derived.Test.YtdakdjpndomdpaaAi9
import Derived.Tactics
import Derived.Deep.Quiet
set_option linter.unusedVariables false
set_option linter.unusedSimpArgs false
namespace Go.Ai
variable {P : Program} {W0 : World}

/-- A function that has a body. -/
def fnOk (P : Program) (f : FuncId) : Bool := match P.funcs[f]? with | some fn => fn.name != "runtime.NumGoroutine" && fn.body.isSome | none => false

/-- A call from this heap comes back, and what it hands back, and the heap then, are as told. -/
def WC (P : Program) (W0 : World) (f : FuncId) (args : List Value) (h : Heap) (Q : Value → Heap → Prop) : Prop :=
  fnOk P f = true ∧ ∀ (ι : Ren) (w : World) (args' : Array Value), Sim P W0 ι h w → All2 (R ι) args args'.toList →
    Calls P f args' w fun e w' => ∃ v v' h' ι', e = .returned v' ∧ ι.le ι' ∧ Sim P W0 ι' h' w' ∧ R ι' v v' ∧ Q v h'

theorem WC.mono {f : FuncId} {args : List Value} {h : Heap} {Q Q' : Value → Heap → Prop} (c : WC P W0 f args h Q) (hq : ∀ v h', Q v h' → Q' v h') : WC P W0 f args h Q' :=
  ⟨c.1, fun ι w args' s ha => (c.2 ι w args' s ha).mono fun e w' ⟨v, v', h', ι', h1, h2, h3, h4, h5⟩ => ⟨v, v', h', ι', h1, h2, h3, h4, hq _ _ h5⟩⟩

abbrev QT := Ex → Env → Heap → Prop

def Post (P : Program) (W0 : World) (nt : Nat) (ι : Ren) (Q : QT) : Exit → Act → World → Prop := fun e a' w' =>
  ∃ x e' h' ι', e = Ex.of x ∧ ι.le ι' ∧ Sim P W0 ι' h' w' ∧ RE nt ι' e' a' ∧ Q x e' h'

/-- Code from this abstract state comes to its end as told. -/
def W (P : Program) (W0 : World) (nt : Nat) (c : Code) (e : Env) (h : Heap) (Q : QT) : Prop :=
  ∀ (ι : Ren) (a : Act) (w : World), Sim P W0 ι h w → RE nt ι e a → c.wp P (Post P W0 nt ι Q) a w

theorem W.mono {nt : Nat} {c : Code} {e : Env} {h : Heap} {Q Q' : QT} (hw : W P W0 nt c e h Q) (hq : ∀ x e h, Q x e h → Q' x e h) : W P W0 nt c e h Q' :=
  fun ι a w hs hr => wp_mono (hw ι a w hs hr) fun e a' w' ⟨x, e', h', ι', h1, h2, h3, h4, h5⟩ => ⟨x, e', h', ι', h1, h2, h3, h4, hq _ _ _ h5⟩

/-! ### Calls in a region -/
def callOf (e : Env) : Op → Option (FuncId × List Value)
  | .call { callee := .value f, args := xs, argTypes := _ } =>
    match e.op f with
    | .func (.func g) first caps => if first.size = 0 then some (g, xs.toList.map e.op ++ caps.toList) else none
    | _ => none
  | _ => none

def dstAt : List Oper → Nat → Option Nat
  | [], _ => none
  | o :: _, 0 => o.dst
  | _ :: l, n + 1 => dstAt l n
def bitOf (want : Bool) : Value → Option Bool
  | .bool b => some (b == want)
  | .tuple _ => some false
  | _ => none
def guardOf (ops : List Oper) (e : Env) : Option (Nat × Bool) → Option Bool
  | none => some true
  | some (j, want) => match dstAt ops j with
    | none => some false
    | some t => bitOf want (e t)

theorem dstAt_eq : ∀ (l : List Oper) (j : Nat), dstAt l j = (l[j]?).bind (·.dst)
  | [], j => by simp [dstAt]
  | o :: l, 0 => by simp [dstAt]
  | o :: l, n + 1 => by simp [dstAt, dstAt_eq l n]

theorem guard_sound {ops : Array Oper} {nt : Nat} {ι : Ren} {e : Env} {a : Act} {o : Oper} {b : Bool} (re : RE nt ι e a) (h : guardOf ops.toList e o.guard = some b) : Region.wanted o (yielded ops a.tmps) = b := by
  unfold guardOf at h
  unfold Region.wanted
  split at h
  · rename_i hg; cases h; simp [hg]
  · rename_i j want hg
    simp only [hg]
    unfold yielded
    rw [dstAt_eq, Array.getElem?_toList] at h
    split at h
    · rename_i hd; cases h; rw [hd]; rfl
    · rename_i t hd
      rw [hd]
      have r := re.slot t
      unfold bitOf at h
      split at h
      · rename_i v hv
        cases h
        rw [hv] at r
        have r : a.tmps.getD t undef = .bool v := r
        have : a.tmps[t]? = some (.bool v) := by
          cases hx : a.tmps[t]? with
          | none => simp [Array.getD_eq_getD_getElem?, hx, undef] at r
          | some y => simp [Array.getD_eq_getD_getElem?, hx] at r; rw [r]
        simp [this]
      · rename_i vs hv
        cases h
        rw [hv] at r
        obtain ⟨vs', r, _⟩ := r
        cases hx : a.tmps[t]? with
        | none => simp [hx]
        | some y => simp [Array.getD_eq_getD_getElem?, hx] at r; simp [hx, r]
      · cases h

theorem call_sound {nt : Nat} {ι : Ren} {e : Env} {a : Act} {o : Oper} {f : FuncId} {args : List Value} (re : RE nt ι e a) (hok : okOp o.op = true) (hc : callOf e o.op = some (f, args)) (hf : fnOk P f = true) (w : World) :
    ∃ args' : Array Value, (execOp a.eval o).run P w = .ok (.enter f args') w ∧ All2 (R ι) args args'.toList := by
  obtain ⟨dst, op, ty, pos, after, guard⟩ := o
  have hops : ∀ x ∈ op.operands.toList, okOpd x = true := List.all_eq_true.1 hok
  simp only at hc
  unfold callOf at hc
  split at hc
  · rename_i fo xs ts
    split at hc
    · rename_i g first caps hfo
      split at hc
      · rename_i h0
        cases hc
        have hf0 : first = #[] := by simpa using h0
        subst hf0
        have r := re.op (hops fo (by simp [Op.operands, Call.operands]))
        rw [hfo] at r
        obtain ⟨_, caps', hv, hcaps⟩ := r
        have hargs := ops_R re (l := xs.toList) fun x hx => hops x (by simp [Op.operands, Call.operands]; right; simpa using hx)
        refine ⟨xs.map a.eval ++ caps', ?_, ?_⟩
        · unfold fnOk at hf
          split at hf
          · rename_i fn hfn
            rw [Bool.and_eq_true] at hf
            have hn : (fn.name == "runtime.NumGoroutine") = false := by simpa using hf.1
            have hn' : ¬ fn.name = "runtime.NumGoroutine" := by simpa using hn
            have hb : ¬ fn.body = none := by intro hbb; rw [hbb] at hf; simp at hf
            simp [execOp, resolve, hv, Deferred.ofValue, invoke, callFunc, hfn, hn', hb]
          · cases hf
        · rw [Array.toList_append, Array.toList_map]
          refine hargs.append (hcaps.imp fun x y ⟨q, c, h1, h2, h3, h4⟩ => ?_)
          rw [h1]; exact RS.toR ⟨c, h2, h3, h4⟩
      · cases hc
    · cases hc
  · cases hc

/-! ### Regions -/
/-- Either way of a test. -/
def gate (g : Bool) (A B : Prop) : Prop := (g = true → A) ∧ (g = false → B)
theorem gate_true {A B : Prop} : gate true A B = A := by simp [gate]
theorem gate_false {A B : Prop} : gate false A B = B := by simp [gate]
/-- Behind an operation that calls nothing. -/
def andThen (r : Option (Value × Heap)) (K : Value → Heap → Prop) : Prop := match r with | some (v, h) => K v h | none => False
theorem andThen_some {v : Value} {h : Heap} {K : Value → Heap → Prop} : andThen (some (v, h)) K = K v h := rfl
def guarded (g : Option Bool) (A B : Prop) : Prop := match g with | some b => gate b A B | none => False

def opO (P : Program) (W0 : World) (e : Env) (h : Heap) (o : Op) (K : Value → Heap → Prop) : Prop :=
  match callOf e o with
  | some (f, args) => WC P W0 f args h K
  | none => andThen (opv P e h o) K

def vcO (P : Program) (W0 : World) (ops : List Oper) : List Oper → Env → Heap → QT → Prop
  | [], e, h, Q => Q .normal e h
  | o :: r, e, h, Q => guarded (guardOf ops e o.guard) (opO P W0 e h o.op fun v h' => vcO P W0 ops r (e.putO o.dst v) h' Q) (vcO P W0 ops r (e.putO o.dst undef) h Q)

def okOper (nt : Nat) (o : Oper) : Bool := okOp o.op && (match o.dst with | some d => decide (d < nt) | none => true)

theorem undef_R {ι : Ren} : R ι undef undef := ⟨#[], rfl, .nil⟩

theorem okOper_dst {nt : Nat} {o : Oper} (h : okOper nt o = true) : okOp o.op = true ∧ ∀ d, o.dst = some d → d < nt := by
  unfold okOper at h
  rw [Bool.and_eq_true] at h
  refine ⟨h.1, fun d hd => ?_⟩
  have := h.2; rw [hd] at this; simpa using this

theorem noOut {nt : Nat} {ι : Ren} {Q : QT} : ¬ LetsOut (Post P W0 nt ι Q) := by
  rintro ⟨a, w, x, e', h', ι2, h1, _⟩; cases x <;> cases h1

theorem wpList_post {nt : Nat} {ops : Array Oper} {Q : QT} {ι ι' : Ren} (hle : ι.le ι') : ∀ (l : List Oper) (a : Act) (w : World), wpList P ops (Post P W0 nt ι' Q) l a w → wpList P ops (Post P W0 nt ι Q) l a w := by
  intro l
  have hQ : ∀ e a w, Post P W0 nt ι' Q e a w → Post P W0 nt ι Q e a w :=
    fun e a w ⟨x, e', h', ι2, h1, h2, h3⟩ => ⟨x, e', h', ι2, h1, Ren.le_trans hle h2, h3⟩
  induction l with
  | nil => intro a w hh; exact hQ _ _ _ hh
  | cons o l ih =>
    intro a w hh
    unfold wpList at hh ⊢
    split
    · rename_i hw
      rw [if_pos hw] at hh
      rcases hh with hh | hh
      · left
        unfold Oper.wp at hh ⊢
        generalize (execOp a.eval o).run P w = r at hh ⊢
        cases r with
        | ok n w' =>
          cases n <;> simp only [Oper.upon] at hh ⊢ <;> first
            | exact ih _ _ hh
            | exact Calls.mono hh (fun e w'' he => by cases e <;> first | exact ih _ _ he | exact hQ _ _ _ he | exact (noOut he).elim)
            | exact Rows.mono hh (fun _ _ he => ih _ _ he)
            | exact hh
        | halt x w' => cases x <;> simp only [Oper.upon] at hh ⊢ <;> first | exact hQ _ _ _ hh | exact hh
      · exact (noOut hh.2).elim
    · rename_i hw
      rw [if_neg hw] at hh
      exact ih _ _ hh

theorem vcO_sound {nt : Nat} {ops : Array Oper} : ∀ (l : List Oper), (∀ o ∈ l, okOper nt o = true) → ∀ (e : Env) (h : Heap) (Q : QT) (ι : Ren) (a : Act) (w : World), vcO P W0 ops.toList l e h Q →
    Sim P W0 ι h w → RE nt ι e a → wpList P ops (Post P W0 nt ι Q) l a w
  | [], _, e, h, Q, ι, a, w, hv, hs, hr => ⟨.normal, e, h, ι, rfl, Ren.le_refl _, hs, hr, hv⟩
  | o :: l, hok, e, h, Q, ι, a, w, hv, hs, hr => by
    have ⟨hop, hd⟩ := okOper_dst (hok o (by simp))
    have hok' : ∀ o ∈ l, okOper nt o = true := fun x hx => hok x (by simp [hx])
    have next : ∀ (ι' : Ren) (v v' : Value) (h' : Heap) (w' : World), ι.le ι' → Sim P W0 ι' h' w' → R ι' v v' → vcO P W0 ops.toList l (e.putO o.dst v) h' Q →
        wpList P ops (Post P W0 nt ι Q) l (a.put o.dst v') w' := fun ι' v v' h' w' hle hs' hR hv' =>
      wpList_post hle l _ _ (vcO_sound l hok' (e.putO o.dst v) h' Q ι' (a.put o.dst v') w' hv' hs' ((hr.mono hle).putO hd hR))
    simp only [vcO, guarded] at hv
    split at hv
    · rename_i g hg
      have hw := guard_sound hr hg
      unfold wpList
      cases g with
      | false =>
        rw [if_neg (by rw [hw]; decide)]
        exact next ι undef undef h w (Ren.le_refl _) hs undef_R (hv.2 rfl)
      | true =>
        replace hv := hv.1 rfl
        rw [if_pos hw]
        left
        unfold opO at hv
        split at hv
        · rename_i f args hc
          obtain ⟨args', hrun, hargs⟩ := call_sound hr hop hc hv.1 w
          unfold Oper.wp
          rw [hrun]
          simp only [Oper.upon]
          exact (hv.2 ι w args' hs hargs).mono fun e w' ⟨v, v', h', ι', h1, h2, h3, h4, h5⟩ => by subst h1; exact next ι' v v' h' w' h2 h3 h4 h5
        · unfold andThen at hv
          split at hv
          · rename_i v h' ho
            obtain ⟨ι', w', v', hd', h2, h3, h4⟩ := opv_sound hs hr hop ho
            unfold Oper.wp
            rcases hd' with hd' | ⟨hd', rfl⟩
            · rw [hd']; simp only [Oper.upon]; exact next ι' v v' h' w' h2 h3 h4 hv
            · rw [hd']; simp only [Oper.upon]; exact next ι' v undef h' w' h2 h3 h4 hv
          · cases hv
    · cases hv

end Go.Ai
