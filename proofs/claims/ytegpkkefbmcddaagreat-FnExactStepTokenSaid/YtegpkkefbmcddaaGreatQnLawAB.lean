/- Own lemmas that the theorem of this claim needs: the abstract machine and walks of functions. -/
import Derived.Test.YtegpkkefbmcddaaGreatQnLawAA
import Derived.Tactics
import Derived.Deep.Quiet
set_option linter.unusedSimpArgs false
set_option linter.unusedVariables false
section
namespace Go.Ai
variable {P : Program} {W0 : World}
def fnOk (P : Program) (f : FuncId) : Bool := match P.funcs[f]? with | some fn => fn.name != "runtime.NumGoroutine" && fn.body.isSome | none => false
def WC (P : Program) (W0 : World) (f : FuncId) (args : List Value) (h : Heap) (Q : Value → Heap → Prop) : Prop :=
 fnOk P f = true ∧ ∀ (ι : Ren) (w : World) (args' : Array Value), Sim P W0 ι h w → All2 (R ι) args args'.toList →
  Calls P f args' w fun e w' => ∃ v v' h' ι', e = .returned v' ∧ ι.le ι' ∧ Sim P W0 ι' h' w' ∧ R ι' v v' ∧ Q v h'
theorem WC.mono {f : FuncId} {args : List Value} {h : Heap} {Q Q' : Value → Heap → Prop} (c : WC P W0 f args h Q) (hq : ∀ v h', Q v h' → Q' v h') : WC P W0 f args h Q' :=
 ⟨c.1, fun ι w args' s ha => (c.2 ι w args' s ha).mono fun e w' ⟨v, v', h', ι', h1, h2, h3, h4, h5⟩ => ⟨v, v', h', ι', h1, h2, h3, h4, hq _ _ h5⟩⟩
abbrev QT := Ex → Env → Heap → Prop
def Post (P : Program) (W0 : World) (nt : Nat) (ι : Ren) (Q : QT) : Exit → Act → World → Prop := fun e a' w' =>
 ∃ x e' h' ι', e = Ex.of x ∧ ι.le ι' ∧ Sim P W0 ι' h' w' ∧ RE nt ι' e' a' ∧ Q x e' h'
def W (P : Program) (W0 : World) (nt : Nat) (c : Code) (e : Env) (h : Heap) (Q : QT) : Prop :=
 ∀ (ι : Ren) (a : Act) (w : World), Sim P W0 ι h w → RE nt ι e a → c.wp P (Post P W0 nt ι Q) a w
def callOf (e : Env) : Op → Option (FuncId × List Value)
 | .call { callee := .value f, args := xs, argTypes := _ } =>
  match e.op f with
  | .func (.func g) first caps => if first.size = 0 then some (g, xs.toList.map e.op ++ caps.toList) else none
  | _ => none
 | _ => none
def dstAt : List Oper → Nat → Option Nat
 | [], _ => none
 | o :: _, 0 => o.dst
 | _ :: l, n + 1 => dstAt l n
def bitOf (want : Bool) : Value → Option Bool
 | .bool b => some (b == want)
 | .tuple _ => some false
 | _ => none
def guardOf (ops : List Oper) (e : Env) : Option (Nat × Bool) → Option Bool
 | none => some true
 | some (j, want) => match dstAt ops j with
  | none => some false
  | some t => bitOf want (e t)
theorem dstAt_eq : ∀ (l : List Oper) (j : Nat), dstAt l j = (l[j]?).bind (·.dst)
 | [], j => by simp [dstAt]
 | o :: l, 0 => by simp [dstAt]
 | o :: l, n + 1 => by simp [dstAt, dstAt_eq l n]
theorem guard_sound {ops : Array Oper} {nt : Nat} {ι : Ren} {e : Env} {a : Act} {o : Oper} {b : Bool} (re : RE nt ι e a) (h : guardOf ops.toList e o.guard = some b) : Region.wanted o (yielded ops a.tmps) = b := by
 unfold guardOf at h
 unfold Region.wanted
 split at h
 ·rename_i hg; cases h; simp [hg]
 ·rename_i j want hg
  simp only [hg]
  unfold yielded
  rw [dstAt_eq, Array.getElem?_toList] at h
  split at h
  ·rename_i hd; cases h; rw [hd]; rfl
  ·rename_i t hd
   rw [hd]
   have r := re.slot t
   unfold bitOf at h
   split at h
   ·rename_i v hv
    cases h
    rw [hv] at r
    have r : a.tmps.getD t undef = .bool v := r
    have : a.tmps[t]? = some (.bool v) := by
     cases hx : a.tmps[t]? with
     | none => simp [Array.getD_eq_getD_getElem?, hx, undef] at r
     | some y => simp [Array.getD_eq_getD_getElem?, hx] at r; rw [r]
    simp [this]
   ·rename_i vs hv
    cases h
    rw [hv] at r
    obtain ⟨vs', r, _⟩ := r
    cases hx : a.tmps[t]? with
    | none => simp [hx]
    | some y => simp [Array.getD_eq_getD_getElem?, hx] at r; simp [hx, r]
   ·cases h
theorem call_sound {nt : Nat} {ι : Ren} {e : Env} {a : Act} {o : Oper} {f : FuncId} {args : List Value} (re : RE nt ι e a) (hok : okOp o.op = true) (hc : callOf e o.op = some (f, args)) (hf : fnOk P f = true) (w : World) :
  ∃ args' : Array Value, (execOp a.eval o).run P w = .ok (.enter f args') w ∧ All2 (R ι) args args'.toList := by
 obtain ⟨dst, op, ty, pos, after, guard⟩ := o
 have hops : ∀ x ∈ op.operands.toList, okOpd x = true := List.all_eq_true.1 hok
 simp only at hc
 unfold callOf at hc
 split at hc
 ·rename_i fo xs ts
  split at hc
  ·rename_i g first caps hfo
   split at hc
   ·rename_i h0
    cases hc
    have hf0 : first = #[] := by simpa using h0
    subst hf0
    have r := re.op (hops fo (by simp [Op.operands, Call.operands]))
    rw [hfo] at r
    obtain ⟨_, caps', hv, hcaps⟩ := r
    have hargs := ops_R re (l := xs.toList) fun x hx => hops x (by simp [Op.operands, Call.operands]; right; simpa using hx)
    refine ⟨xs.map a.eval ++ caps', ?_, ?_⟩
    ·unfold fnOk at hf
     split at hf
     ·rename_i fn hfn
      rw [Bool.and_eq_true] at hf
      have hn : (fn.name == "runtime.NumGoroutine") = false := by simpa using hf.1
      have hn' : ¬ fn.name = "runtime.NumGoroutine" := by simpa using hn
      have hb : ¬ fn.body = none := by intro hbb; rw [hbb] at hf; simp at hf
      simp [execOp, resolve, hv, Deferred.ofValue, invoke, callFunc, hfn, hn', hb]
     ·cases hf
    ·rw [Array.toList_append, Array.toList_map]
     refine hargs.append (hcaps.imp fun x y ⟨q, c, h1, h2, h3, h4⟩ => ?_)
     rw [h1]; exact RS.toR ⟨c, h2, h3, h4⟩
   ·cases hc
  ·cases hc
 ·cases hc
def gate (g : Bool) (A B : Prop) : Prop := (g = true → A) ∧ (g = false → B)
def andThen (r : Option (Value × Heap)) (K : Value → Heap → Prop) : Prop := match r with | some (v, h) => K v h | none => False
def guarded (g : Option Bool) (A B : Prop) : Prop := match g with | some b => gate b A B | none => False
def opO (P : Program) (W0 : World) (e : Env) (h : Heap) (o : Op) (K : Value → Heap → Prop) : Prop :=
 match callOf e o with
 | some (f, args) => WC P W0 f args h K
 | none => andThen (opv P e h o) K
def vcO (P : Program) (W0 : World) (ops : List Oper) : List Oper → Env → Heap → QT → Prop
 | [], e, h, Q => Q .normal e h
 | o :: r, e, h, Q => guarded (guardOf ops e o.guard) (opO P W0 e h o.op fun v h' => vcO P W0 ops r (e.putO o.dst v) h' Q) (vcO P W0 ops r (e.putO o.dst undef) h Q)
def okOper (nt : Nat) (o : Oper) : Bool := okOp o.op && (match o.dst with | some d => decide (d < nt) | none => true)
theorem undef_R {ι : Ren} : R ι undef undef := ⟨#[], rfl, .nil⟩
theorem okOper_dst {nt : Nat} {o : Oper} (h : okOper nt o = true) : okOp o.op = true ∧ ∀ d, o.dst = some d → d < nt := by
 unfold okOper at h
 rw [Bool.and_eq_true] at h
 refine ⟨h.1, fun d hd => ?_⟩
 have := h.2; rw [hd] at this; simpa using this
theorem noOut {nt : Nat} {ι : Ren} {Q : QT} : ¬ LetsOut (Post P W0 nt ι Q) := by
 rintro ⟨a, w, x, e', h', ι2, h1, _⟩; cases x <;> cases h1
theorem wpList_post {nt : Nat} {ops : Array Oper} {Q : QT} {ι ι' : Ren} (hle : ι.le ι') : ∀ (l : List Oper) (a : Act) (w : World), wpList P ops (Post P W0 nt ι' Q) l a w → wpList P ops (Post P W0 nt ι Q) l a w := by
 intro l
 have hQ : ∀ e a w, Post P W0 nt ι' Q e a w → Post P W0 nt ι Q e a w :=
  fun e a w ⟨x, e', h', ι2, h1, h2, h3⟩ => ⟨x, e', h', ι2, h1, Ren.le_trans hle h2, h3⟩
 induction l with
 | nil => intro a w hh; exact hQ _ _ _ hh
 | cons o l ih =>
  intro a w hh
  unfold wpList at hh ⊢
  split
  ·rename_i hw
   rw [if_pos hw] at hh
   rcases hh with hh | hh
   ·left
    unfold Oper.wp at hh ⊢
    generalize (execOp a.eval o).run P w = r at hh ⊢
    cases r with
    | ok n w' =>
     cases n <;> simp only [Oper.upon] at hh ⊢ <;> first
      | exact ih _ _ hh
      | exact Calls.mono hh (fun e w'' he => by cases e <;> first | exact ih _ _ he | exact hQ _ _ _ he | exact (noOut he).elim)
      | exact Rows.mono hh (fun _ _ he => ih _ _ he)
      | exact hh
    | halt x w' => cases x <;> simp only [Oper.upon] at hh ⊢ <;> first | exact hQ _ _ _ hh | exact hh
   ·exact (noOut hh.2).elim
  ·rename_i hw
   rw [if_neg hw] at hh
   exact ih _ _ hh
theorem vcO_sound {nt : Nat} {ops : Array Oper} : ∀ (l : List Oper), (∀ o ∈ l, okOper nt o = true) → ∀ (e : Env) (h : Heap) (Q : QT) (ι : Ren) (a : Act) (w : World), vcO P W0 ops.toList l e h Q →
    Sim P W0 ι h w → RE nt ι e a → wpList P ops (Post P W0 nt ι Q) l a w
  | [], _, e, h, Q, ι, a, w, hv, hs, hr => ⟨.normal, e, h, ι, rfl, Ren.le_refl _, hs, hr, hv⟩
  | o :: l, hok, e, h, Q, ι, a, w, hv, hs, hr => by
    have ⟨hop, hd⟩ := okOper_dst (hok o (by simp))
    have hok' : ∀ o ∈ l, okOper nt o = true := fun x hx => hok x (by simp [hx])
    have next : ∀ (ι' : Ren) (v v' : Value) (h' : Heap) (w' : World), ι.le ι' → Sim P W0 ι' h' w' → R ι' v v' → vcO P W0 ops.toList l (e.putO o.dst v) h' Q →
        wpList P ops (Post P W0 nt ι Q) l (a.put o.dst v') w' := fun ι' v v' h' w' hle hs' hR hv' =>
      wpList_post hle l _ _ (vcO_sound l hok' (e.putO o.dst v) h' Q ι' (a.put o.dst v') w' hv' hs' ((hr.mono hle).putO hd hR))
    simp only [vcO, guarded] at hv
    split at hv
    · rename_i g hg
      have hw := guard_sound hr hg
      unfold wpList
      cases g with
      | false =>
        rw [if_neg (by rw [hw]; decide)]
        exact next ι undef undef h w (Ren.le_refl _) hs undef_R (hv.2 rfl)
      | true =>
        replace hv := hv.1 rfl
        rw [if_pos hw]
        left
        unfold opO at hv
        split at hv
        · rename_i f args hc
          obtain ⟨args', hrun, hargs⟩ := call_sound hr hop hc hv.1 w
          unfold Oper.wp
          rw [hrun]
          simp only [Oper.upon]
          exact (hv.2 ι w args' hs hargs).mono fun e w' ⟨v, v', h', ι', h1, h2, h3, h4, h5⟩ => by subst h1; exact next ι' v v' h' w' h2 h3 h4 h5
        · unfold andThen at hv
          split at hv
          · rename_i v h' ho
            obtain ⟨ι', w', v', hd', h2, h3, h4⟩ := opv_sound hs hr hop ho
            unfold Oper.wp
            rcases hd' with hd' | ⟨hd', rfl⟩
            · rw [hd']; simp only [Oper.upon]; exact next ι' v v' h' w' h2 h3 h4 hv
            · rw [hd']; simp only [Oper.upon]; exact next ι' v undef h' w' h2 h3 h4 hv
          · cases hv
    · cases hv
end Go.Ai
namespace Go.Ai
variable {P : Program} {W0 : World}
def seqQ (K : Env → Heap → Prop) (Q : QT) : QT
 | .normal, e, h => K e h
 | .ret, e, h => Q .ret e h
 | .exit j, e, h => Q (.exit j) e h
def blockQ (id : Nat) (Q : QT) : QT
 | .normal, e, h => Q .normal e h
 | .ret, e, h => Q .ret e h
 | .exit j, e, h => if j = id then Q .normal e h else Q (.exit j) e h
def loopQ (I : Nat → Env → Heap → Prop) (n : Nat) (Q : QT) : QT
 | .normal, e, h => ∃ m, m < n ∧ I m e h
 | .ret, e, h => Q .ret e h
 | .exit j, e, h => Q (.exit j) e h
def condV (v : Value) (A B : Prop) : Prop := match v with | .bool b => gate b A B | _ => False
abbrev DT := List Oper → Env → Heap → QT → Prop
def hole : Value := .chan none
def cutE (ks : List Nat) (e : Env) : Env := fun t => if ks.contains t then e t else hole
def cutO : Option (List Nat) → Env → Env
 | none, e => e
 | some ks, e => cutE ks e
structure Rules where
 d : DT
 cp : Nat → Option (List Nat)
theorem cutO_RE {nt : Nat} {ι : Ren} {e : Env} {a : Act} (o : Option (List Nat)) (r : RE nt ι e a) : RE nt ι (cutO o e) a := by
 cases o with
 | none => exact r
 | some ks =>
  refine ⟨r.defers, r.size, fun t => ?_⟩
  simp only [cutO, cutE]
  split
  ·exact r.slot t
  ·exact trivial
def vcC (P : Program) (W0 : World) (D : Rules) : Code → Env → Heap → QT → Prop
 | .skip, e, h, Q => Q .normal e h
 | .region id ops false, e, h, Q => vcO P W0 ops.toList ops.toList (cutO (D.cp id) e) h Q
 | .region id ops true, e, h, Q => D.d ops.toList (cutO (D.cp id) e) h Q
 | .seq a b, e, h, Q => vcC P W0 D a e h (seqQ (fun e h => vcC P W0 D b e h Q) Q)
 | .cond c t f, e, h, Q => condV (e.op c) (vcC P W0 D t e h Q) (vcC P W0 D f e h Q)
 | .block id b, e, h, Q => vcC P W0 D b e h (blockQ id Q)
 | .loop b, e, h, Q => ∃ (I : Nat → Env → Heap → Prop) (n : Nat), I n e h ∧ ∀ n e h, I n e h → vcC P W0 D b e h (loopQ I n Q)
 | .exit id, e, h, Q => Q (.exit id) e h
 | .ret, e, h, Q => Q .ret e h
 | _, _, _, _ => False
def okCode (nt : Nat) (okD : List Oper → Bool) : Code → Bool
 | .region _ ops d => ops.toList.all (okOper nt) && (!d || okD ops.toList)
 | .seq a b => okCode nt okD a && okCode nt okD b
 | .cond c t f => okOpd c && okCode nt okD t && okCode nt okD f
 | .block _ b => okCode nt okD b
 | .loop b => okCode nt okD b
 | .skip | .exit _ | .ret => true
 | _ => false
def SoundD (P : Program) (W0 : World) (nt : Nat) (D : DT) (okD : List Oper → Bool) : Prop :=
 ∀ (id : Nat) (ops : Array Oper) (e : Env) (h : Heap) (Q : QT), (∀ o ∈ ops.toList, okOper nt o = true) → okD ops.toList = true → D ops.toList e h Q → W P W0 nt (.region id ops true) e h Q
theorem W_loop {nt : Nat} {b : Code} {e : Env} {h : Heap} {Q : QT} (I : Nat → Env → Heap → Prop) (n : Nat) (h0 : I n e h)
  (hr : ∀ n e h, I n e h → W P W0 nt b e h (loopQ I n Q)) : W P W0 nt (.loop b) e h Q := by
 intro ι a w hs hre
 have key : ∀ (n : Nat) (e : Env) (h : Heap) (a : Act) (w : World) (ι1 : Ren), ι.le ι1 → I n e h → Sim P W0 ι1 h w → RE nt ι1 e a → Code.rounds P b (Post P W0 nt ι Q) (n + 1) a w := by
  intro n
  induction n using Nat.strongRecOn with
  | _ n ih =>
   intro e h a w ι1 hle hI hs hre
   rw [rounds_succ]
   refine wp_mono (hr n e h hI ι1 a w hs hre) ?_
   rintro e1 a' w' ⟨x, e', h', ι', rfl, h2, h3, h4, h5⟩
   cases x with
   | normal =>
    obtain ⟨m, hm, hI'⟩ := h5
    have := ih m hm e' h' a' w' ι' (Ren.le_trans hle h2) hI' h3 h4
    have up : ∀ (k : Nat) (a : Act) (w : World), Code.rounds P b (Post P W0 nt ι Q) k a w → ∀ j, Code.rounds P b (Post P W0 nt ι Q) (k + j) a w := by
     intro k
     induction k with
     | zero => intro a w hh; exact hh.elim
     | succ k ihk =>
      intro a w hh j
      rw [show k + 1 + j = (k + j) + 1 by omega, rounds_succ]
      rw [rounds_succ] at hh
      refine wp_mono hh fun e a w he => ?_
      cases e <;> first | exact ihk _ _ he j | exact he
    have := up _ _ _ this (n - (m + 1))
    rwa [show m + 1 + (n - (m + 1)) = n by omega] at this
   | ret => exact ⟨.ret, e', h', ι', rfl, Ren.le_trans hle h2, h3, h4, h5⟩
   | exit j => exact ⟨.exit j, e', h', ι', rfl, Ren.le_trans hle h2, h3, h4, h5⟩
 exact wp_loop_rounds _ (key n e h a w ι (Ren.le_refl _) h0 hs hre)
theorem vcC_sound {nt : Nat} {D : Rules} {okD : List Oper → Bool} (hD : SoundD P W0 nt D.d okD) : ∀ (c : Code), okCode nt okD c = true → ∀ (e : Env) (h : Heap) (Q : QT), vcC P W0 D c e h Q → W P W0 nt c e h Q
 | .skip, _, e, h, Q, hv => fun ι a w hs hr => wp_skip ⟨.normal, e, h, ι, rfl, Ren.le_refl _, hs, hr, hv⟩
 | .region id ops false, hok, e, h, Q, hv => fun ι a w hs hr => by
  simp only [okCode, Bool.and_eq_true] at hok
  exact wp_region_list (vcO_sound ops.toList (List.all_eq_true.1 hok.1) _ h Q ι a w hv hs (cutO_RE _ hr))
 | .region id ops true, hok, e, h, Q, hv => fun ι a w hs hr => by
  simp only [okCode, Bool.and_eq_true] at hok
  exact hD id ops _ h Q (List.all_eq_true.1 hok.1) (by simpa using hok.2) hv ι a w hs (cutO_RE _ hr)
 | .seq c d, hok, e, h, Q, hv => fun ι a w hs hr => by
  simp only [okCode, Bool.and_eq_true] at hok
  refine wp_seq (wp_mono (vcC_sound hD c hok.1 e h _ hv ι a w hs hr) ?_)
  rintro e1 a' w' ⟨x, e', h', ι', rfl, h2, h3, h4, h5⟩
  cases x with
  | normal => exact wp_mono (vcC_sound hD d hok.2 e' h' Q h5 ι' a' w' h3 h4) fun e a w ⟨x, s2, s3, ι2, g1, g2, g3⟩ => ⟨x, s2, s3, ι2, g1, Ren.le_trans h2 g2, g3⟩
  | ret => exact ⟨.ret, e', h', ι', rfl, h2, h3, h4, h5⟩
  | exit j => exact ⟨.exit j, e', h', ι', rfl, h2, h3, h4, h5⟩
 | .cond c t f, hok, e, h, Q, hv => fun ι a w hs hr => by
  simp only [okCode, Bool.and_eq_true] at hok
  simp only [vcC, condV] at hv
  split at hv
  ·rename_i b hb
   have r := hr.op hok.1.1
   rw [hb] at r
   have r : a.eval c = .bool b := r
   cases b with
   | true => exact wp_cond_true r (vcC_sound hD t hok.1.2 e h Q (hv.1 rfl) ι a w hs hr)
   | false => exact wp_cond_false r (vcC_sound hD f hok.2 e h Q (hv.2 rfl) ι a w hs hr)
  ·cases hv
 | .block id b, hok, e, h, Q, hv => fun ι a w hs hr => by
  simp only [okCode] at hok
  refine wp_block (wp_mono (vcC_sound hD b hok e h _ hv ι a w hs hr) ?_)
  rintro e1 a' w' ⟨x, e', h', ι', rfl, h2, h3, h4, h5⟩
  cases x with
  | normal => exact ⟨.normal, e', h', ι', rfl, h2, h3, h4, h5⟩
  | ret => exact ⟨.ret, e', h', ι', rfl, h2, h3, h4, h5⟩
  | exit j =>
   simp only [Ex.of, Exit.inBlock, blockQ] at h5 ⊢
   split at h5
   ·rename_i hj; rw [if_pos hj]; exact ⟨.normal, e', h', ι', rfl, h2, h3, h4, h5⟩
   ·rename_i hj; rw [if_neg hj]; exact ⟨.exit j, e', h', ι', rfl, h2, h3, h4, h5⟩
 | .loop b, hok, e, h, Q, hv => by
  simp only [okCode] at hok
  obtain ⟨I, n, h0, hr⟩ := hv
  exact W_loop I n h0 fun n e h hI => vcC_sound hD b hok e h _ (hr n e h hI)
 | .exit id, _, e, h, Q, hv => fun ι a w hs hr => wp_exit ⟨.exit id, e, h, ι, rfl, Ren.le_refl _, hs, hr, hv⟩
 | .ret, _, e, h, Q, hv => fun ι a w hs hr => wp_ret ⟨.ret, e, h, ι, rfl, Ren.le_refl _, hs, hr, hv⟩
 | .rangeFunc .., hok, _, _, _, _ => by simp [okCode] at hok
 | .scope .., hok, _, _, _, _ => by simp [okCode] at hok
 | .label .., hok, _, _, _, _ => by simp [okCode] at hok
 | .goto .., hok, _, _, _, _ => by simp [okCode] at hok
 | .refuse .., hok, _, _, _, _ => by simp [okCode] at hok
def resH (P : Program) (h : Heap) (e : Env) : List ResultVar → Option (List Value)
 | [] => some []
 | .tmp t :: r => match resH P h e r with
  | some l => some (e t :: l)
  | none => none
 | .cell a t :: r => match loadV P h t (e a), resH P h e r with
  | some v, some l => some (v :: l)
  | _, _ => none
def isTup : Value → Bool
 | .tuple _ => true
 | _ => false
def outV (l : List Value) : Option Value := match l with
 | [v] => some v
 | l => if l.all (fun v => !isTup v) = true then some (.tuple l.toArray) else none
def rootEnv (args : List Value) : Env := fun t => args.getD t undef
theorem All2.getD {r : Value → Value → Prop} {l m : List Value} (h : All2 r l m) {d : Value} (hd : r d d) (t : Nat) : r (l.getD t d) (m.getD t d) := by
 simp only [List.getD_eq_getElem?_getD]
 cases hx : l[t]? with
 | none =>
  have : m[t]? = none := by rw [List.getElem?_eq_none_iff] at hx ⊢; rw [← h.length]; exact hx
  simp [this, hd]
 | some x => obtain ⟨y, hy, r⟩ := h.get hx; simp [hy, r]
def resOne (tmps : Array Value) : ResultVar → Sem Value
 | .tmp t => pure (tmps.getD t undef)
 | .cell b t => do loadVar t (← asAddr (tmps.getD b undef))
theorem results_eq (fn : Func) (tmps : Array Value) : results fn tmps = (do let vs ← fn.results.mapM (resOne tmps); pure (if h : vs.size = 1 then vs[0] else .tuple vs)) := by
 unfold results
 congr 1
theorem resH_sound {nt : Nat} {ι : Ren} {e : Env} {a : Act} {h : Heap} {w : World} (s : Sim P W0 ι h w) (re : RE nt ι e a) : ∀ (rs : List ResultVar) (l : List Value), resH P h e rs = some l →
  ∃ l' : List Value, (rs.mapM (resOne a.tmps)).run P w = .ok l' w ∧ All2 (R ι) l l'
 | [], l, hl => by simp [resH] at hl; subst hl; exact ⟨[], by simp, .nil⟩
 | .tmp t :: rs, l, hl => by
  simp only [resH] at hl
  split at hl
  ·rename_i l0 h0
   cases hl
   obtain ⟨l', h1, h2⟩ := resH_sound s re rs l0 h0
   exact ⟨_ :: l', by rw [List.mapM_cons]; simp only [resOne, Sem.run_bind, Sem.run_pure, Result.andThen_ok]; rw [h1]; rfl, .cons (re.slot t) h2⟩
  ·cases hl
 | .cell b t :: rs, l, hl => by
  simp only [resH] at hl
  split at hl
  ·rename_i v l0 hv h0
   cases hl
   obtain ⟨l', h1, h2⟩ := resH_sound s re rs l0 h0
   obtain ⟨v', h3, h4⟩ := load_sound s hv (re.slot b)
   refine ⟨v' :: l', ?_, .cons h4 h2⟩
   have hp : ∃ q, a.tmps.getD b undef = .pointer (some q) := by
    have r := re.slot b
    unfold loadV at hv
    split at hv
    ·rename_i q hq; rw [hq] at r; obtain ⟨c, _, _, hc⟩ := r; exact ⟨_, hc⟩
    ·cases hv
   obtain ⟨q, hq⟩ := hp
   rw [hq] at h3
   rw [List.mapM_cons]
   have h5 : (resOne a.tmps (.cell b t)).run P w = .ok v' w := by
    simp only [resOne, hq, asAddr, Sem.run_bind, Sem.run_pure, Result.andThen_ok]
    simp only [Instr.loadAt, Instr.sureAddr, Sem.run_bind, Sem.run_pure, Result.andThen_ok] at h3
    exact h3
   simp only [Sem.run_bind, Sem.run_pure, h5, Result.andThen_ok]
   rw [h1]; rfl
  ·cases hl
theorem RG_of {ι : Ren} {x y : Value} (h : isTup x = false) (r : R ι x y) : RG ι x y := by
 unfold R at r; split at r
 ·simp [isTup] at h
 ·exact r
theorem All2_RG {ι : Ren} : ∀ {l m : List Value}, (l.all fun v => !isTup v) = true → All2 (R ι) l m → All2 (RG ι) l m
 | _, _, _, .nil => .nil
 | _, _, h, .cons a b => by
  rw [List.all_cons, Bool.and_eq_true] at h
  exact .cons (RG_of (by simpa using h.1) a) (All2_RG h.2 b)
def endH (r : Option (List Value)) (h : Heap) (Q : Value → Heap → Prop) : Prop := match r with
 | some l => match outV l with
  | some v => Q v h
  | none => False
 | none => False
def ends (P : Program) (rs : List ResultVar) (Q : Value → Heap → Prop) : QT
 | .exit _, _, _ => False
 | .normal, e, h => endH (resH P h e rs) h Q
 | .ret, e, h => endH (resH P h e rs) h Q
theorem WC_of_body {D : Rules} {okD : List Oper → Bool} {f : FuncId} {fn : Func} {c : Code} (hD : SoundD P W0 fn.ntmps D.d okD) (hf : P.funcs[f]? = some fn) (hb : fn.body = some c)
    (hn : (fn.name != "runtime.NumGoroutine") = true) (hok : okCode fn.ntmps okD c = true) {args : List Value} {h : Heap} (hlen : args.length ≤ fn.ntmps) {Q : Value → Heap → Prop}
    (hv : vcC P W0 D c (rootEnv args) h (ends P fn.results.toList Q)) : WC P W0 f args h Q := by
  refine ⟨by simp [fnOk, hf, hb, hn], fun ι w args' hs ha => calls_of_wp hf hb ?_⟩
  have hl := ha.length
  have hsz : args'.size = args.length := by rw [hl]; simp
  have hre : RE fn.ntmps ι (rootEnv args) { tmps := args' ++ Array.replicate (fn.ntmps - args'.size) undef, defers := [] } := by
    refine ⟨rfl, by simp; omega, fun t => ?_⟩
    have h1 := ha.getD (undef_R (ι := ι)) t
    unfold rootEnv
    have h2 : (args' ++ Array.replicate (fn.ntmps - args'.size) undef).getD t undef = args'.toList.getD t undef := by
      simp only [Array.getD_eq_getD_getElem?, List.getD_eq_getElem?_getD, Array.getElem?_toList, Array.getElem?_append, Array.getElem?_replicate]
      split
      · rfl
      · rename_i h3
        rw [Array.getElem?_eq_none (by omega)]
        split <;> rfl
    rw [h2]; exact h1
  refine wp_mono (vcC_sound hD c hok (rootEnv args) h _ hv ι _ w hs hre) ?_
  rintro e1 a' w' ⟨x, e', h', ι', rfl, h2, h3, h4, h5⟩
  have fin : endH (resH P h' e' fn.results.toList) h' Q →
      a'.defers = [] ∧ ∃ v, (results fn a'.tmps).run P w' = .ok v w' ∧ ∃ v0 v' h' ι'', Ending.returned v = .returned v' ∧ ι.le ι'' ∧ Sim P W0 ι'' h' w' ∧ R ι'' v0 v' ∧ Q v0 h' := by
    intro h5
    refine ⟨h4.defers, ?_⟩
    unfold endH at h5
    split at h5
    · rename_i l hl
      split at h5
      · rename_i v hv
        obtain ⟨l', g1, g2⟩ := resH_sound h3 h4 fn.results.toList l hl
        have hr : (results fn a'.tmps).run P w' = .ok (if h : l'.toArray.size = 1 then l'.toArray[0] else .tuple l'.toArray) w' := by
          rw [results_eq, Array.mapM_eq_mapM_toList]
          simp only [Sem.run_bind, Sem.run_map, Sem.run_pure]
          rw [g1]; rfl
        refine ⟨_, hr, v, _, h', ι', rfl, h2, h3, ?_, h5⟩
        unfold outV at hv
        split at hv
        · cases hv
          match l', g2 with
          | [y], .cons r .nil => simpa using r
        · rename_i hne
          split at hv
          · rename_i ht
            cases hv
            have : l'.toArray.size ≠ 1 := by
              intro he
              have : l.length = 1 := by rw [g2.length]; simpa using he
              match l, this with
              | [x], _ => exact hne x rfl
            rw [dif_neg this]
            exact ⟨_, rfl, by simpa using All2_RG ht g2⟩
          · cases hv
      · cases h5
    · cases h5
  cases x with
  | normal => exact fin h5
  | ret => exact fin h5
  | exit j => exact h5.elim
end Go.Ai
namespace Go.Ai
inductive Hold {α : Type} (a : α) : Type
 | mk
abbrev KT := Value → Heap → Prop
def hg (h : Heap) (b : Nat) (_ : Hold h) : Option Blk := h.get b
def hn (h : Heap) (_ : Hold h) : Nat := h.n
section
variable (P : Program) (W0 : World) (D : Rules)
end
def sz (o : Option Heap) (K : KT) (_ : Hold K) : Prop := match o with | some h' => K undef h' | none => False
variable {P : Program} {W0 : World} {D : Rules} {e : Env} {h : Heap} {Q : QT} {K : KT}
def pk (b : Bool) (v : Value) (e : Env) (t : Nat) (_ : Hold (v, e)) : Value := match b with | true => v | false => e t
def hk (b : Bool) (o : Option Blk) (h : Heap) (c : Nat) (_ : Hold (o, h)) : Option Blk := match b with | true => o | false => h.get c
def fz (F : Env → Prop) (e : Env) (_ : Hold (F, e)) : Prop := F e
def cpL (l : List (List Nat)) (id : Nat) : Option (List Nat) := l[id]?
def dstz (l : List Oper) (j : Nat) (_ : Hold l) : Option Nat := dstAt l j
theorem dst0 {o : Oper} {l : List Oper} : dstz (o :: l) 0 .mk = o.dst := rfl
theorem dstS {o : Oper} {l : List Oper} {n : Nat} : dstz (o :: l) (n + 1) .mk = dstz l n .mk := rfl
theorem beq_tt {b : Bool} : (b == true) = b := by simp
theorem beq_ff {b : Bool} : (b == false) = !b := by cases b <;> rfl
def pkB (c a b : Bool) : Bool := match c with | true => a | false => b
theorem pkB_t {a b : Bool} : pkB true a b = a := rfl
theorem pkB_f {a b : Bool} : pkB false a b = b := rfl
def elT (o : Option (TypeId × Nat × Nat)) : Nat := match o with | some (e, _, _) => e | none => 0
def elZ (o : Option (TypeId × Nat × Nat)) : Nat := match o with | some (_, z, _) => z | none => 0
theorem elT_some {e z b : Nat} : elT (some (e, z, b)) = e := rfl
theorem elZ_some {e z b : Nat} : elZ (some (e, z, b)) = z := rfl
def rowOk (o : Option (TypeId × Nat × Nat)) (zs : Option (List Value)) (n : Nat) : Bool := match o, zs with
 | some (_, z, _), some zs => decide (n ≤ 64) && (decide (zs.length = z) && decide (z ≤ 64))
 | _, _ => false
theorem rowOk_some {u z b n : Nat} {zs : List Value} : rowOk (some (u, z, b)) (some zs) n = (decide (n ≤ 64) && (decide (zs.length = z) && decide (z ≤ 64))) := rfl
def repO (n : Nat) (o : Option (List Value)) : Option (List Value) := match o with | some z => some (repL n z) | none => none
theorem repO_some {n : Nat} {z : List Value} : repO n (some z) = some (repL n z) := rfl
theorem rep_0 {z : List Value} : repL 0 z = [] := rfl
theorem rep_S {n : Nat} {z : List Value} : repL (n + 1) z = z ++ repL n z := by simp [repL, List.replicate_succ]
def ldA (o : Option (List Value)) : Option Value := match o with | some l => some (.agg l.toArray) | none => none
def ldz (g : Option Bool) (n : Option Nat) (k : Option Blk) (off : Nat) : Option Value := match k with
 | some k => (match g with | some true => (match n with | some n => ldA (rd k.cs off n) | none => none) | some false => k.cs[off]? | none => none)
 | none => none
theorem i_add {t : TypeId} {k : IntKind} {x y : Int} : binV P .add t (.int k x) (.int k y) = some (.int k (k.wrap (x + y))) := (if_pos rfl : binV P .add t (.int k x) (.int k y) = binI .add k x y).trans (rfl)
theorem i_sub {t : TypeId} {k : IntKind} {x y : Int} : binV P .sub t (.int k x) (.int k y) = some (.int k (k.wrap (x - y))) := (if_pos rfl : binV P .sub t (.int k x) (.int k y) = binI .sub k x y).trans (rfl)
theorem i_mul {t : TypeId} {k : IntKind} {x y : Int} : binV P .mul t (.int k x) (.int k y) = some (.int k (k.wrap (x * y))) := (if_pos rfl : binV P .mul t (.int k x) (.int k y) = binI .mul k x y).trans (rfl)
theorem i_eql {t : TypeId} {k : IntKind} {x y : Int} : binV P .eql t (.int k x) (.int k y) = some (.bool (decide (x = y))) := (if_pos rfl : binV P .eql t (.int k x) (.int k y) = binI .eql k x y).trans (by simp [binI, Bool.beq_eq_decide_eq])
theorem i_neq {t : TypeId} {k : IntKind} {x y : Int} : binV P .neq t (.int k x) (.int k y) = some (.bool (decide (x ≠ y))) := (if_pos rfl : binV P .neq t (.int k x) (.int k y) = binI .neq k x y).trans (by simp only [binI]; congr 2; by_cases hxy : x = y <;> simp [hxy])
theorem i_lss {t : TypeId} {k : IntKind} {x y : Int} : binV P .lss t (.int k x) (.int k y) = some (.bool (decide (x < y))) := (if_pos rfl : binV P .lss t (.int k x) (.int k y) = binI .lss k x y).trans (rfl)
theorem i_leq {t : TypeId} {k : IntKind} {x y : Int} : binV P .leq t (.int k x) (.int k y) = some (.bool (decide (x ≤ y))) := (if_pos rfl : binV P .leq t (.int k x) (.int k y) = binI .leq k x y).trans (rfl)
theorem i_gtr {t : TypeId} {k : IntKind} {x y : Int} : binV P .gtr t (.int k x) (.int k y) = some (.bool (decide (y < x))) := (if_pos rfl : binV P .gtr t (.int k x) (.int k y) = binI .gtr k x y).trans (rfl)
theorem i_geq {t : TypeId} {k : IntKind} {x y : Int} : binV P .geq t (.int k x) (.int k y) = some (.bool (decide (y ≤ x))) := (if_pos rfl : binV P .geq t (.int k x) (.int k y) = binI .geq k x y).trans (rfl)
theorem i_quo {t : TypeId} {k : IntKind} {x y : Int} (h0 : (y == 0) = false) : binV P .quo t (.int k x) (.int k y) = some (.int k (k.wrap (x.tdiv y))) := (if_pos rfl : binV P .quo t (.int k x) (.int k y) = binI .quo k x y).trans (by simp_all [binI])
theorem i_rem {t : TypeId} {k : IntKind} {x y : Int} (h0 : (y == 0) = false) : binV P .rem t (.int k x) (.int k y) = some (.int k (x.tmod y)) := (if_pos rfl : binV P .rem t (.int k x) (.int k y) = binI .rem k x y).trans (by simp_all [binI])
theorem bin_shl {t : TypeId} {k k' : IntKind} {x y : Int} : binV P .shl t (.int k x) (.int k' y) = shiftI .shl k x y := rfl
theorem bin_shr {t : TypeId} {k k' : IntKind} {x y : Int} : binV P .shr t (.int k x) (.int k' y) = shiftI .shr k x y := rfl
theorem un_neg {k : IntKind} {n : Int} : unV .neg (.int k n) = some (.int k (k.wrap (0 - n))) := rfl
theorem un_not {b : Bool} : unV .not (.bool b) = some (.bool !b) := rfl
attribute [go_sem] dst0 dstS beq_tt beq_ff pkB_t pkB_f elT_some elZ_some rowOk_some repO_some rep_0 rep_S List.cons_append List.nil_append List.append_nil bin_shl bin_shr i_add i_sub i_mul i_quo i_rem i_eql i_neq i_lss i_leq i_gtr i_geq un_neg un_not
end Go.Ai
namespace Go.Ai
variable {P : Program} {W0 : World} {D : Rules} {e : Env} {h : Heap} {Q : QT} {K : KT}
def eltZ (o : Option (TypeId × Nat × Nat)) : Nat := match o with | some (_, z, _) => z | none => 0
theorem eltZ_some {e z b : Nat} : eltZ (some (e, z, b)) = z := rfl
theorem fld_map {o n : Nat} {b : Bool} : (Option.map (fun p : Nat × Nat × Bool => (p.1, p.2.1)) (some (o, n, b))) = some (o, n) := rfl
def fldO (o : Option (Nat × Nat × Bool)) : Nat := match o with | some (o, _, _) => o | none => 0
theorem fldO_some {o n : Nat} {b : Bool} : fldO (some (o, n, b)) = o := rfl
def fldN (o : Option (Nat × Nat × Bool)) : Nat := match o with | some (_, n, _) => n | none => 0
theorem fldN_some {o n : Nat} {b : Bool} : fldN (some (o, n, b)) = n := rfl
def posN : Nat → Bool
 | 0 => false
 | _ + 1 => true
theorem posN_S {n : Nat} : posN (n + 1) = true := rfl
theorem fa_ptr {s b off f : Nat} {p : Option Nat} (hn : posN (fldN (fld? P s f)) = true) : fieldAddrV P s (.pointer (some ⟨b, off, p⟩)) f = some (.pointer (some ⟨b, off + fldO (fld? P s f), none⟩)) := by
 unfold fieldAddrV
 cases hf : fld? P s f with
 | none => rw [hf] at hn; simp [fldN, posN] at hn
 | some q =>
  obtain ⟨o, n, g⟩ := q
  rw [hf] at hn
  simp only [fldN] at hn
  match n, hn with
  | n + 1, _ => rfl
  | 0, hn => simp [posN] at hn
theorem ia_at {t b off n c : Nat} {p : Option Nat} {k : IntKind} {i : Int} (h1 : (elt? P t).isSome = true) (h2 : 0 ≤ i ∧ i < n) :
  indexAddrV P t (.slice (some ⟨b, off, p⟩) n c) (.int k i) = some (.pointer (some ⟨b, off + i.toNat * eltZ (elt? P t), none⟩)) := by
 unfold indexAddrV
 cases he : elt? P t with
 | none => rw [he] at h1; simp at h1
 | some q => obtain ⟨u, z, y⟩ := q; simp only [if_pos h2, eltZ]
def shrI (k : IntKind) (x y : Int) : Int := x.fdiv (2 ^ (min y.toNat k.bits))
def shlI (k : IntKind) (x y : Int) : Int := k.wrap (x * 2 ^ (min y.toNat k.bits))
theorem sh_r {k : IntKind} {x y : Int} (hy : 0 ≤ y) : shiftI .shr k x y = some (.int k (shrI k x y)) := by simp [shiftI, shrI, Int.not_lt.2 hy]
theorem sh_l {k : IntKind} {x y : Int} (hy : 0 ≤ y) : shiftI .shl k x y = some (.int k (shlI k x y)) := by simp [shiftI, shlI, Int.not_lt.2 hy]
theorem b_neq {t : TypeId} {x y : Bool} (hc : cls? P t = some .bool) : binV P .neq t (.bool x) (.bool y) = some (.bool (!(x == y))) := by simp [binV, eqV, hc]
theorem beq_len {n : Nat} : (n == n) = true := by simp
attribute [go_sem] posN_S eltZ_some fld_map fldO_some fldN_some fa_ptr ia_at sh_r sh_l b_neq beq_len Option.isSome_some List.getElem?_cons_zero List.getElem?_cons_succ List.length_cons List.length_nil Bool.and_true Bool.true_and Bool.and_self
end Go.Ai
namespace Go.Ai
variable {P : Program} {W0 : World}
def bef (l : List Oper) (i : Nat) : List Nat := match l[i]? with
 | some o => (o.after.toList.filter (Region.binds .any)).map (·.on)
 | none => []
def tmpsOf : List Operand → List Nat
 | [] => []
 | .tmp t :: r => t :: tmpsOf r
 | _ :: r => tmpsOf r
def guardSlot (l : List Oper) : Option (Nat × Bool) → List Nat
 | none => []
 | some (j, _) => match dstAt l j with | some d => [d] | none => []
def looksO (l : List Oper) (o : Oper) : List Nat := tmpsOf o.op.operands.toList ++ guardSlot l o.guard
def looks (l : List Oper) (i : Nat) : List Nat := match l[i]? with | some o => looksO l o | none => []
theorem tmpsOf_mem {t : Nat} : ∀ {l : List Operand}, Operand.tmp t ∈ l → t ∈ tmpsOf l := by
 intro l
 induction l with
 | nil => intro h; cases h
 | cons x r ih =>
  intro h
  rcases List.mem_cons.1 h with h2 | h2
  ·subst h2; simp [tmpsOf]
  ·have := ih h2
   cases x <;> simp [tmpsOf, this]
theorem op_congr {e e' : Env} {l : List Operand} (h : ∀ t ∈ tmpsOf l, e t = e' t) {x : Operand} (hx : x ∈ l) : e.op x = e'.op x := by
 cases x with
 | tmp t => exact h t (tmpsOf_mem hx)
 | _ => rfl
theorem guard_congr {e e' : Env} {ops : List Oper} {g : Option (Nat × Bool)} (h : ∀ t ∈ guardSlot ops g, e t = e' t) : guardOf ops e g = guardOf ops e' g := by
 cases g with
 | none => rfl
 | some q =>
  obtain ⟨j, w⟩ := q
  simp only [guardOf, guardSlot] at h ⊢
  cases hd : dstAt ops j with
  | none => rfl
  | some d => rw [hd] at h; simp only; rw [h d (by simp)]
theorem fillL_congr {place : Nat → Option (Nat × Nat)} {e e' : Env} : ∀ {l : List (Nat × Operand)} {cs : List Value}, (∀ p ∈ l, e.op p.2 = e'.op p.2) → fillL place e l cs = fillL place e' l cs
 | [], _, _ => rfl
 | (i, x) :: r, cs, h => by
  simp only [fillL]
  rw [show e.op x = e'.op x from h (i, x) (by simp)]
  split
  ·split
   ·split
    ·exact fillL_congr fun p hp => h p (by simp [hp])
    ·rfl
   ·rfl
  ·rfl
theorem map_op_congr {e e' : Env} {xs : List Operand} (h : ∀ x ∈ xs, e.op x = e'.op x) : xs.map e.op = xs.map e'.op := List.map_congr_left h
theorem opt_op_congr {e e' : Env} {o : Option Operand} (h : ∀ x, o = some x → e.op x = e'.op x) : o.map e.op = o.map e'.op := by
 cases o with
 | none => rfl
 | some x => simp [h x rfl]
theorem opv_congr {e e' : Env} {h : Heap} (o : Op) (hx : ∀ x ∈ o.operands.toList, e.op x = e'.op x) : opv P e h o = opv P e' h o := by
 cases o <;> (try rfl) <;> simp only [Op.operands] at hx
 case move x => simp only [opv]; rw [hx x (by simp)]
 case assign x => simp only [opv]; rw [hx x (by simp)]
 case pick c a b => simp only [opv]; rw [hx c (by simp), hx a (by simp), hx b (by simp)]
 case box t x => simp only [opv]; rw [hx x (by simp)]
 case build t ps => simp only [opv]; cases zr? P t with
  | none => rfl
  | some z => simp only; rw [fillL_congr fun p hp => hx p.2 (by simp; exact ⟨p.1, by simpa using hp⟩)]
 case buildSlice t n ps =>
  simp only [opv]
  cases elt? P t with
  | none => rfl
  | some q =>
   obtain ⟨u, z, y⟩ := q
   simp only
   cases zr? P u with
   | none => rfl
   | some zs => simp only; rw [fillL_congr fun p hp => hx p.2 (by simp; exact ⟨p.1, by simpa using hp⟩)]
 case load t x => simp only [opv]; rw [hx x (by simp)]
 case store t x y => simp only [opv]; rw [hx x (by simp), hx y (by simp)]
 case nilCheck x => simp only [opv]; rw [hx x (by simp)]
 case binOp op t x y u => simp only [opv]; rw [hx x (by simp), hx y (by simp)]
 case unOp op t x => simp only [opv]; rw [hx x (by simp)]
 case convert s d x => simp only [opv]; rw [hx x (by simp)]
 case makeFunc fn first caps =>
  cases fn <;> (try rfl)
  simp only [opv]
  have h1 : (caps.toList.all fun x => ptrV (e.op x)) = (caps.toList.all fun x => ptrV (e'.op x)) := by
   rw [Bool.eq_iff_iff, List.all_eq_true, List.all_eq_true]
   exact ⟨fun hh x hxx => by rw [← hx x (by simp; right; simpa using hxx)]; exact hh x hxx, fun hh x hxx => by rw [hx x (by simp; right; simpa using hxx)]; exact hh x hxx⟩
  rw [h1, Array.map_congr_left (xs := caps) fun x hxx => hx x (by simp; right; simpa using hxx)]
 case makeSlice t x y => simp only [opv]; rw [hx x (by simp), hx y (by simp)]
 case slice t x lo hi mx =>
  simp only [opv]
  rw [hx x (by simp), opt_op_congr (o := lo) fun y hy => hx y (by simp [hy]), opt_op_congr (o := hi) fun y hy => hx y (by simp [hy]), opt_op_congr (o := mx) fun y hy => hx y (by simp [hy])]
 case fieldAddr s x f => simp only [opv]; rw [hx x (by simp)]
 case field s x f => simp only [opv]; rw [hx x (by simp)]
 case indexAddr t x ix => simp only [opv]; rw [hx x (by simp), hx ix (by simp)]
 case index t x ix => simp only [opv]; rw [hx x (by simp), hx ix (by simp)]
 case extract x i => simp only [opv]; rw [hx x (by simp)]
 case call c =>
  obtain ⟨callee, xs, ts⟩ := c
  cases callee <;> (try rfl)
  simp only [opv]
  rw [map_op_congr fun x hxx => hx x (by simp [Call.operands]; simpa using hxx)]
theorem callOf_congr {e e' : Env} (o : Op) (hx : ∀ x ∈ o.operands.toList, e.op x = e'.op x) : callOf e o = callOf e' o := by
 cases o <;> (try rfl)
 case call c =>
  obtain ⟨callee, xs, ts⟩ := c
  cases callee <;> (try rfl)
  rename_i f
  simp only [callOf]
  rw [hx f (by simp [Op.operands, Call.operands]), map_op_congr fun x hxx => hx x (by simp [Op.operands, Call.operands]; right; simpa using hxx)]
theorem opO_congr {e e' : Env} {h : Heap} {K : Value → Heap → Prop} (o : Op) (hx : ∀ x ∈ o.operands.toList, e.op x = e'.op x) : opO P W0 e h o K = opO P W0 e' h o K := by
 unfold opO; rw [callOf_congr o hx, opv_congr o hx]
def quietO (P : Program) : Op → Bool
 | .move _ | .assign _ | .pick _ _ _ | .load _ _ | .nilCheck _ | .binOp .. | .unOp .. | .fieldAddr .. | .field .. | .indexAddr .. | .index .. | .extract .. | .slice .. | .build .. | .makeFunc .. => true
 | .convert s d _ => match cls? P s, cls? P d with | some .str, some .sl => false | _, _ => true
 | .call ⟨.builtin .len, _, _⟩ | .call ⟨.builtin .cap, _, _⟩ | .call ⟨.builtin .max, _, _⟩ | .call ⟨.builtin .min, _, _⟩ => true
 | _ => false
def pureO (P : Program) : Op → Bool
 | .load _ _ | .slice .. => false
 | .convert s d _ => match cls? P s, cls? P d with | some .sl, _ => false | _, _ => true
 | _ => true
theorem quiet_call {e : Env} {o : Op} (hq : quietO P o = true) : callOf e o = none := by
 cases o <;> (try rfl) <;> (try (simp [quietO] at hq; done))
 case call c => obtain ⟨callee, xs, ts⟩ := c; cases callee <;> first | rfl | (simp [quietO] at hq; done)
theorem map_heap {o : Option Value} {h h' : Heap} {v : Value} (hh : o.map (·, h) = some (v, h')) : h' = h ∧ ∀ h2 : Heap, o.map (·, h2) = some (v, h2) := by
 cases o with
 | none => cases hh
 | some x => simp at hh; obtain ⟨rfl, rfl⟩ := hh; exact ⟨rfl, fun _ => rfl⟩
theorem conv_quiet {s d : TypeId} {x : Value} {h h' : Heap} {v : Value} (hq : quietO P (.convert s d (.const x)) = true) (hv : convV P h s d x = some (v, h')) :
  h' = h ∧ (pureO P (.convert s d (.const x)) = true → ∀ h2, convV P h2 s d x = some (v, h2)) := by
 simp only [quietO] at hq
 simp only [pureO]
 unfold convV at hv ⊢
 cases hs : cls? P s <;> cases hd : cls? P d <;> simp only [hs, hd] at hv hq ⊢ <;> (try (cases hv; done))
 rename_i c c'
 cases c <;> cases c' <;> cases x <;> simp only at hv hq ⊢ <;> (try (cases hv; done)) <;> (try (simp at hq; done)) <;> (try (simp at hv; obtain ⟨rfl, rfl⟩ := hv; simp; done))
 all_goals
  split at hv
  ·split at hv
   ·cases hv; simp
   ·cases hv
  ·cases hv
theorem builtin_quiet {b : Builtin} {ts : List TypeId} {xs : List Value} {h h' : Heap} {v : Value} (hb : b = .len ∨ b = .cap ∨ b = .max ∨ b = .min) (hv : builtinV P h b ts xs = some (v, h')) :
    h' = h ∧ ∀ h2, builtinV P h2 b ts xs = some (v, h2) := by
  rcases hb with rfl | rfl | rfl | rfl <;> unfold builtinV at hv ⊢
  · split at hv
    all_goals first
      | (exfalso; simp_all; done)
      | (split at hv
         · rename_i hc; cases hv; exact ⟨rfl, fun h2 => by simp only []⟩
         · cases hv)
  · split at hv
    all_goals first
      | (exfalso; simp_all; done)
      | (split at hv
         · rename_i hc; cases hv; exact ⟨rfl, fun h2 => by simp only []⟩
         · cases hv)
  · exact map_heap hv
  · exact map_heap hv
theorem quiet_spec {e : Env} {o : Op} {h h' : Heap} {v : Value} (hq : quietO P o = true) (hv : opv P e h o = some (v, h')) :
  h' = h ∧ (pureO P o = true → ∀ h2, opv P e h2 o = some (v, h2)) := by
 cases o <;> (try (simp [quietO] at hq; done)) <;> simp only [opv] at hv ⊢
 case move x => cases hv; exact ⟨rfl, fun _ _ => rfl⟩
 case assign x => cases hv; exact ⟨rfl, fun _ _ => rfl⟩
 case pick c a b => split at hv <;> simp_all
 case build t ps =>
  split at hv
  ·split at hv
   ·rename_i hb; simp only [if_pos hb]
    generalize fillL (fun i => (fld? P t i).map fun p => (p.1, p.2.1)) e ps.toList _ = r at hv
    cases r with
    | none => cases hv
    | some l => simp at hv; obtain ⟨rfl, rfl⟩ := hv; exact ⟨rfl, fun _ _ => rfl⟩
   ·cases hv
  ·cases hv
 case load t x => exact ⟨(map_heap hv).1, fun hp => by simp [pureO] at hp⟩
 case nilCheck x => split at hv <;> simp_all
 case binOp op t x y u => exact ⟨(map_heap hv).1, fun _ => (map_heap hv).2⟩
 case unOp op t x => exact ⟨(map_heap hv).1, fun _ => (map_heap hv).2⟩
 case convert s d x => exact conv_quiet (x := e.op x) hq hv
 case makeFunc fn first caps =>
  cases fn <;> simp only [] at hv ⊢ <;> (try (cases hv; done))
  split at hv <;> simp_all
 case slice t x lo hi mx => exact ⟨(map_heap hv).1, fun hp => by simp [pureO] at hp⟩
 case fieldAddr s x f => exact ⟨(map_heap hv).1, fun _ => (map_heap hv).2⟩
 case field s x f => exact ⟨(map_heap hv).1, fun _ => (map_heap hv).2⟩
 case indexAddr t x ix => exact ⟨(map_heap hv).1, fun _ => (map_heap hv).2⟩
 case index t x ix => exact ⟨(map_heap hv).1, fun _ => (map_heap hv).2⟩
 case extract x i => exact ⟨(map_heap hv).1, fun _ => (map_heap hv).2⟩
 case call c =>
  obtain ⟨callee, xs, ts⟩ := c
  cases callee <;> (try (simp [quietO] at hq; done))
  rename_i b
  have hb : b = .len ∨ b = .cap ∨ b = .max ∨ b = .min := by cases b <;> simp_all [quietO]
  obtain ⟨h1, h2⟩ := builtin_quiet hb hv
  exact ⟨h1, fun _ => h2⟩
end Go.Ai
namespace Go.Ai
variable {P : Program} {W0 : World}
def effO (P : Program) (l : List Oper) (i : Nat) : Bool := match l[i]? with | some o => !quietO P o.op | none => true
def staleO (P : Program) (l : List Oper) (i : Nat) : Bool := match l[i]? with | some o => !pureO P o.op | none => false
def stays (P : Program) (l : List Oper) (q : Nat) (e : Env) (h : Heap) : Prop := match l[q]? with
 | none => True
 | some o => match guardOf l e o.guard with
  | some true => (match o.dst with | some d => opv P e h o.op = some (e d, h) | none => False)
  | some false => True
  | none => False
def runP (P : Program) (W0 : World) (l : List Oper) : List (Nat × List Nat) → Env → Heap → QT → Prop
 | [], e, h, Q => Q .normal e h
 | (i, pd) :: r, e, h, Q => match l[i]? with
  | none => False
  | some o => guarded (guardOf l e o.guard) (opO P W0 e h o.op fun v h' => (∀ q ∈ pd, stays P l q (e.putO o.dst v) h') ∧ runP P W0 l r (e.putO o.dst v) h' Q) (runP P W0 l r (e.putO o.dst undef) h Q)
def descOk (l : List Oper) : List Nat → List (Nat × List Nat) → Bool
 | _, [] => true
 | D, (k, _) :: r => (bef l k).any (fun j => D.contains j) && descOk l (k :: D) r
def ancs (l : List Oper) : List Nat → List Nat → List Nat
 | [], A => A
 | q :: r, A => ancs l r (if A.contains q then A ++ bef l q else A)
def chk (P : Program) (l : List Oper) : List Nat → List (Nat × List Nat) → Bool
  | _, [] => true
  | pre, (i, pd) :: r => !(pre.contains i) && (decide (i < l.length) && ((bef l i).all (fun j => pre.contains j) && ((!effO P l i || (descOk l [i] r &&
      (pre.all (fun q => !staleO P l q || (pd.contains q || (ancs l pre (bef l i)).contains q)) &&
       pd.all (fun q => (looks l q).all fun t => (i :: pre).all fun j => dstAt l j != some t || (bef l q).contains j)))) && chk P l (i :: pre) r)))
def glob (l : List Oper) : Bool := (List.range l.length).all fun j => match dstAt l j with
 | none => true
 | some t => (List.range l.length).all fun i => (i == j || dstAt l i != some t) && (!(looks l i).contains t || ((bef l i).contains j || (bef l j).contains i))
def okPlan (P : Program) (l : List Oper) (p : List (Nat × List Nat)) : Bool := glob l && ((List.range l.length).all (fun i => (p.map (·.1)).contains i) && chk P l [] p)
theorem dstAt_lt {l : List Oper} {j d : Nat} (h : dstAt l j = some d) : j < l.length := by
 rw [dstAt_eq] at h
 cases hx : l[j]? with
 | none => rw [hx] at h; cases h
 | some o => exact (List.getElem?_eq_some_iff.1 hx).1
theorem looks_lt {l : List Oper} {i t : Nat} (h : t ∈ looks l i) : i < l.length := by
 unfold looks at h
 cases hx : l[i]? with
 | none => rw [hx] at h; cases h
 | some o => exact (List.getElem?_eq_some_iff.1 hx).1
theorem glob_dst {l : List Oper} (g : glob l = true) {i j t : Nat} (hi : dstAt l i = some t) (hj : dstAt l j = some t) : i = j := by
 have := List.all_eq_true.1 g j (by simpa using dstAt_lt hj)
 simp only [hj] at this
 have := List.all_eq_true.1 this i (by simpa using dstAt_lt hi)
 rw [Bool.and_eq_true] at this
 have := this.1
 simp [hi] at this
 exact this
theorem glob_look {l : List Oper} (g : glob l = true) {i j t : Nat} (hi : t ∈ looks l i) (hj : dstAt l j = some t) : j ∈ bef l i ∨ i ∈ bef l j := by
 have := List.all_eq_true.1 g j (by simpa using dstAt_lt hj)
 simp only [hj] at this
 have := List.all_eq_true.1 this i (by simpa using looks_lt hi)
 rw [Bool.and_eq_true] at this
 have := this.2
 simp [hi] at this
 exact this
def Cur (l : List Oper) (X : Nat → Prop) (val : Nat → Value) (e0 e : Env) : Prop :=
 ∀ t, (∀ j, X j → dstAt l j = some t → e t = val j) ∧ ((∀ j, X j → dstAt l j ≠ some t) → e t = e0 t)
def Agree (l : List Oper) (q : Nat) (val : Nat → Value) (e0 e : Env) : Prop :=
 ∀ t ∈ looks l q, (∀ j ∈ bef l q, dstAt l j = some t → e t = val j) ∧ ((∀ j ∈ bef l q, dstAt l j ≠ some t) → e t = e0 t)
def Fine (P : Program) (l : List Oper) (q : Nat) (val : Nat → Value) (e0 : Env) (h : Heap) : Prop :=
 ∀ o, l[q]? = some o → ∀ e, Agree l q val e0 e → ∃ g, guardOf l e o.guard = some g ∧ (g = true → opv P e h o.op = some (val q, h)) ∧ (g = false → val q = undef)
theorem agree_of_cur {l : List Oper} (g : glob l = true) {X : Nat → Prop} {val : Nat → Value} {e0 e : Env} {q : Nat} (c : Cur l X val e0 e) (hb : ∀ j ∈ bef l q, X j) (hn : ∀ j, X j → q ∉ bef l j) : Agree l q val e0 e := by
 intro t ht
 refine ⟨fun j hj hd => (c t).1 j (hb j hj) hd, fun hno => (c t).2 fun j hX hd => ?_⟩
 rcases glob_look g ht hd with h1 | h1
 ·exact hno j h1 hd
 ·exact hn j hX h1
theorem agree_eq {l : List Oper} {val : Nat → Value} {e0 e e' : Env} {q : Nat} (a : Agree l q val e0 e) (a' : Agree l q val e0 e') : ∀ t ∈ looks l q, e t = e' t := by
 intro t ht
 by_cases hj : ∃ j ∈ bef l q, dstAt l j = some t
 ·obtain ⟨j, h1, h2⟩ := hj
  rw [(a t ht).1 j h1 h2, (a' t ht).1 j h1 h2]
 ·have hno : ∀ j ∈ bef l q, dstAt l j ≠ some t := fun j h1 h2 => hj ⟨j, h1, h2⟩
  rw [(a t ht).2 hno, (a' t ht).2 hno]
theorem agree_val {l : List Oper} {val val' : Nat → Value} {e0 e : Env} {q : Nat} (h : ∀ j ∈ bef l q, val' j = val j) (a : Agree l q val' e0 e) : Agree l q val e0 e := by
 intro t ht
 exact ⟨fun j hj hd => (((a t ht).1 j hj hd).trans (h j hj)), (a t ht).2⟩
theorem looks_eq {l : List Oper} {q : Nat} {o : Oper} (ho : l[q]? = some o) : looks l q = looksO l o := by simp [looks, ho]
theorem same_ops {l : List Oper} {q : Nat} {o : Oper} (ho : l[q]? = some o) {e e' : Env} (h : ∀ t ∈ looks l q, e t = e' t) :
  guardOf l e o.guard = guardOf l e' o.guard ∧ ∀ x ∈ o.op.operands.toList, e.op x = e'.op x := by
 rw [looks_eq ho] at h
 exact ⟨guard_congr fun t ht => h t (List.mem_append_right _ ht), fun x hx => op_congr (fun t ht => h t (List.mem_append_left _ ht)) hx⟩
theorem cur_add {l : List Oper} (g : glob l = true) {X : Nat → Prop} {val val' : Nat → Value} {e0 e : Env} {i : Nat} {v : Value} {o : Oper} (ho : l[i]? = some o) (hX : ¬ X i) (c : Cur l X val e0 e)
    (hv : ∀ j, X j → val' j = val j) (hi : val' i = v) : Cur l (fun j => j = i ∨ X j) val' e0 (e.putO o.dst v) := by
  have hdi : dstAt l i = o.dst := by rw [dstAt_eq, ho]; rfl
  intro t
  constructor
  · rintro j (rfl | hj) hd
    · rw [hdi] at hd; rw [hd, hi]; simp [Env.putO, Env.put]
    · have : o.dst ≠ some t := fun hh => by
        have := glob_dst g hd (hdi.trans hh); subst this; exact hX hj
      have h1 : e.putO o.dst v t = e t := by
        cases hdo : o.dst with
        | none => rfl
        | some d => simp [Env.putO, Env.put]; intro ht; subst ht; exact absurd hdo this
      rw [h1, (c t).1 j hj hd, hv j hj]
  · intro hno
    have : o.dst ≠ some t := fun hh => hno i (.inl rfl) (hdi.trans hh)
    have h1 : e.putO o.dst v t = e t := by
      cases hdo : o.dst with
      | none => rfl
      | some d => simp [Env.putO, Env.put]; intro ht; subst ht; exact absurd hdo this
    rw [h1]
    exact (c t).2 fun j hj => hno j (.inr hj)
theorem cur_imp {l : List Oper} {X Y : Nat → Prop} {val : Nat → Value} {e0 e : Env} (h : ∀ j, X j ↔ Y j) (c : Cur l X val e0 e) : Cur l Y val e0 e := by
 intro t
 exact ⟨fun j hj => (c t).1 j ((h j).2 hj), fun hno => (c t).2 fun j hj => hno j ((h j).1 hj)⟩
theorem cur_val {l : List Oper} {X : Nat → Prop} {val val' : Nat → Value} {e0 e : Env} (h : ∀ j, X j → val' j = val j) (c : Cur l X val e0 e) : Cur l X val' e0 e := by
 intro t
 exact ⟨fun j hj hd => ((c t).1 j hj hd).trans (h j hj).symm, (c t).2⟩
theorem cur_eq {l : List Oper} {X : Nat → Prop} {val : Nat → Value} {e0 e e' : Env} (c : Cur l X val e0 e) (c' : Cur l X val e0 e') : e = e' := by
 funext t
 by_cases hj : ∃ j, X j ∧ dstAt l j = some t
 ·obtain ⟨j, h1, h2⟩ := hj; rw [(c t).1 j h1 h2, (c' t).1 j h1 h2]
 ·have hno : ∀ j, X j → dstAt l j ≠ some t := fun j h1 h2 => hj ⟨j, h1, h2⟩
  rw [(c t).2 hno, (c' t).2 hno]
section
variable {l : List Oper} {nt : Nat} {e0 : Env} {Q : QT} {ι0 : Ren} {S : Nat → Prop} {dn : List Nat} {rest : List (Nat × List Nat)} {val : Nat → Value} {ec es : Env} {h : Heap} {a : Act} {w : World}
theorem ancs_sub {S : Nat → Prop} (hc : ∀ i, S i → ∀ j ∈ bef l i, S j) : ∀ (d A : List Nat), (∀ j ∈ A, S j) → ∀ j ∈ ancs l d A, S j
 | [], A, h => h
 | q :: r, A, h => by
  simp only [ancs]
  refine ancs_sub hc r _ ?_
  split
  ·rename_i hq
   intro j hj
   rcases List.mem_append.1 hj with hj | hj
   ·exact h j hj
   ·exact hc q (h q (by simpa using hq)) j hj
  ·exact h
theorem op_real {ops : Array Oper} {QQ : Exit → Act → World → Prop} {ι : Ren} {i : Nat} {o : Oper} (ho : ops[i]? = some o) (hok : okOper nt o = true) (re : RE nt ι es a) (s : Sim P W0 ι h w)
  {g : Bool} (hg : guardOf ops.toList es o.guard = some g) {Kv : Value → Heap → Prop} (hT : g = true → opO P W0 es h o.op Kv) {K : Act → World → Prop}
  (hK : g = true → ∀ v h', Kv v h' → ∀ ι' v' w', ι.le ι' → Sim P W0 ι' h' w' → RE nt ι' (es.putO o.dst v) (a.put o.dst v') → K (a.put o.dst v') w')
  (hF : g = false → RE nt ι (es.putO o.dst undef) (a.put o.dst undef) → K (a.put o.dst undef) w) : wpOp P ops QQ i K a w := by
 have ⟨hop, hd⟩ := okOper_dst hok
 have hw := guard_sound (ops := ops) re hg
 unfold wpOp
 rw [ho]
 simp only
 cases g with
 | false => rw [if_neg (by rw [hw]; decide)]; exact hF rfl (re.putO hd undef_R)
 | true =>
  rw [if_pos hw]
  left
  have hv := hT rfl
  unfold opO at hv
  split at hv
  ·rename_i f args hc
   obtain ⟨args', hrun, hargs⟩ := call_sound re hop hc hv.1 w
   unfold Oper.wp
   rw [hrun]
   simp only [Oper.upon]
   exact (hv.2 ι w args' s hargs).mono fun e w' ⟨v, v', h', ι', h1, h2, h3, h4, h5⟩ => by subst h1; exact hK rfl v h' h5 ι' v' w' h2 h3 ((re.mono h2).putO hd h4)
  ·unfold andThen at hv
   split at hv
   ·rename_i v h' hov
    obtain ⟨ι', w', v', hd', h2, h3, h4⟩ := opv_sound s re hop hov
    unfold Oper.wp
    rcases hd' with hd' | ⟨hd', rfl⟩
    ·rw [hd']; simp only [Oper.upon]; exact hK rfl v h' hv ι' v' w' h2 h3 ((re.mono h2).putO hd h4)
    ·rw [hd']; simp only [Oper.upon]; exact hK rfl v h' hv ι' undef w' h2 h3 ((re.mono h2).putO hd h4)
   ·cases hv
end
end Go.Ai
namespace Go.Ai
variable {P : Program} {W0 : World}
theorem last_not {X : Nat → Prop} : ∀ (l : List Nat), (∃ q ∈ l, ¬ X q) → ∃ d1 q d2, l = d1 ++ q :: d2 ∧ ¬ X q ∧ ∀ j ∈ d2, X j
 | [], h => by obtain ⟨q, hq, _⟩ := h; cases hq
 | x :: l, h => by
  by_cases hl : ∃ q ∈ l, ¬ X q
  ·obtain ⟨d1, q, d2, h1, h2, h3⟩ := last_not l hl
   exact ⟨x :: d1, q, d2, by rw [h1]; rfl, h2, h3⟩
  ·obtain ⟨q, hq, hx⟩ := h
   rcases List.mem_cons.1 hq with rfl | hq
   ·exact ⟨[], q, l, rfl, hx, fun j hj => Classical.not_not.1 fun hn => hl ⟨j, hj, hn⟩⟩
   ·exact (hl ⟨q, hq, hx⟩).elim
section
variable {l : List Oper} {nt : Nat} {e0 : Env} {Q : QT} {ι0 : Ren} {S : Nat → Prop} {dn : List Nat} {rest : List (Nat × List Nat)} {val : Nat → Value} {ec es : Env} {h : Heap} {a : Act} {w : World}
theorem mem_ready {ops : Array Oper} {listed : Array Bool} (hs : listed.size = ops.size) {i : Nat} : i ∈ Region.ready .any ops listed ↔ i < ops.size ∧ listed.getD i false = false ∧ ∀ j ∈ bef ops.toList i, listed.getD j false = true := by
 unfold Region.ready bef
 rw [List.mem_filter, List.mem_range, Bool.and_eq_true]
 constructor
 ·rintro ⟨h1, h2, h3⟩
  have ho : ops[i]? = some ops[i] := Array.getElem?_eq_getElem h1
  refine ⟨h1, by simp [Array.getD_eq_getD_getElem?, Array.getElem?_eq_getElem (show i < listed.size by omega)] at h2 ⊢; exact h2, ?_⟩
  rw [ho] at h3
  rw [Array.getElem?_toList, ho]
  simp only [Option.map_some, Option.getD_some] at h3 ⊢
  intro j hj
  obtain ⟨e, he, rfl⟩ := List.mem_map.1 hj
  obtain ⟨he1, he2⟩ := List.mem_filter.1 he
  have := Array.all_eq_true_iff_forall_mem.1 h3 e (by simpa using he1)
  simpa [he2] using this
 ·rintro ⟨h1, h2, h3⟩
  have ho : ops[i]? = some ops[i] := Array.getElem?_eq_getElem h1
  refine ⟨h1, by simp [Array.getD_eq_getD_getElem?, Array.getElem?_eq_getElem (show i < listed.size by omega)] at h2 ⊢; exact h2, ?_⟩
  rw [Array.getElem?_toList, ho] at h3
  rw [ho]
  simp only [Option.map_some, Option.getD_some] at h3 ⊢
  refine Array.all_eq_true_iff_forall_mem.2 fun e he => ?_
  cases hb : Region.binds .any e with
  | false => simp
  | true => simpa using h3 e.on (List.mem_map.2 ⟨e, List.mem_filter.2 ⟨by simpa using he, hb⟩, rfl⟩)
end
end Go.Ai
namespace Go.Ai
variable {P : Program} {W0 : World} {e : Env} {h : Heap} {Q : QT} {K : KT}
def atz (l : List Oper) (i : Nat) (_ : Hold l) : Option Oper := l[i]?
theorem at0 {o : Oper} {l : List Oper} : atz (o :: l) 0 .mk = some o := rfl
theorem atS {o : Oper} {l : List Oper} {i : Nat} : atz (o :: l) (i + 1) .mk = atz l i .mk := by simp [atz]
def rK (P : Program) (W0 : World) (l : List Oper) (pd : List Nat) (r : List (Nat × List Nat)) (d : Option Tmp) (e : Env) (Q : QT) : KT :=
 fun v h' => (∀ q ∈ pd, stays P l q (e.putO d v) h') ∧ runP P W0 l r (e.putO d v) h' Q
attribute [go_sem] at0 atS
end Go.Ai
namespace Go.Ai
theorem wrap_i64' {x : Int} : IntKind.i64.wrap x = if 9223372036854775808 ≤ x % 18446744073709551616 then x % 18446744073709551616 - 18446744073709551616 else x % 18446744073709551616 := by
 simp [IntKind.wrap, IntKind.signed, IntKind.bits]
theorem wrap_i64 {x : Int} (h1 : -9223372036854775808 ≤ x) (h2 : x < 9223372036854775808) : IntKind.i64.wrap x = x := by
 rw [wrap_i64']; split <;> omega
end Go.Ai
namespace Go.Ai
variable {P : Program} {W0 : World} {D : Rules} {e : Env} {h : Heap} {Q : QT} {K : KT}
theorem lt_S {a b : Nat} (h : a < b) : (a < b + 1) = True := eq_true (by omega)
theorem lt_self' {a : Nat} : (a < a + 1) = True := eq_true (by omega)
theorem beq_S1 {a : Nat} : (a + 1 == a) = false := by simp
theorem beq_S2 {a : Nat} : (a + 1 + 1 == a) = false := by simp; omega
theorem beq_S3 {a : Nat} : (a + 1 + 1 + 1 == a) = false := by simp; omega
theorem beq_S4 {a : Nat} : (a + 1 + 1 + 1 + 1 == a) = false := by simp; omega
theorem beq_SS {a b : Nat} : (a + 1 == b + 1) = (a == b) := by rw [Bool.eq_iff_iff]; simp
theorem beq_R1 {a : Nat} : (a == a + 1) = false := by simp
theorem beq_R2 {a : Nat} : (a == a + 1 + 1) = false := by simp; omega
theorem beq_R3 {a : Nat} : (a == a + 1 + 1 + 1) = false := by simp; omega
theorem beq_R4 {a : Nat} : (a == a + 1 + 1 + 1 + 1) = false := by simp; omega
theorem rep_one {n : Nat} {v : Value} : repL n [v] = List.replicate n v := by
 induction n with
 | zero => rfl
 | succ n ih => rw [rep_S, ih]; rfl
attribute [go_sem] lt_S lt_self' beq_S1 beq_S2 beq_S3 beq_S4 beq_SS beq_R1 beq_R2 beq_R3 beq_R4
end Go.Ai

end
