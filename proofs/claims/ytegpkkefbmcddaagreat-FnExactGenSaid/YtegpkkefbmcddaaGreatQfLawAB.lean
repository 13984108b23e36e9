/- Own lemmas that the theorem of this claim needs: the abstract machine and walks of functions. -/
import Derived.Test.YtegpkkefbmcddaaGreatQfLawAA
import Derived.Tactics
import Derived.Deep.Quiet
set_option linter.unusedSimpArgs false
set_option linter.unusedVariables false
section
namespace Go.Ai
variable {P : Program} {W0 : World}
def V2 (P : Program) (f : FuncId) : Bool := match P.funcs[f]? with | some fn => fn.name != "runtime.NumGoroutine" && fn.body.isSome | none => false
def WC (P : Program) (W0 : World) (f : FuncId) (args : List Value) (h : Heap) (Q : Value → Heap → Prop) : Prop :=
 V2 P f = true ∧ ∀ (ι : Ren) (w : World) (args' : Array Value), CT P W0 ι h w → BJ (R ι) args args'.toList →
  Calls P f args' w fun e w' => ∃ v v' h' ι', e = .returned v' ∧ ι.le ι' ∧ CT P W0 ι' h' w' ∧ R ι' v v' ∧ Q v h'
theorem WC.mono {f : FuncId} {args : List Value} {h : Heap} {Q Q' : Value → Heap → Prop} (c : WC P W0 f args h Q) (hq : ∀ v h', Q v h' → Q' v h') : WC P W0 f args h Q' :=
 ⟨c.1, fun ι w args' s ha => (c.2 ι w args' s ha).mono fun e w' ⟨v, v', h', ι', h1, h2, h3, h4, h5⟩ => ⟨v, v', h', ι', h1, h2, h3, h4, hq _ _ h5⟩⟩
abbrev QT := Ex → Env → Heap → Prop
def HG (P : Program) (W0 : World) (nt : Nat) (ι : Ren) (Q : QT) : Exit → Act → World → Prop := fun e a' w' =>
 ∃ x e' h' ι', e = Ex.of x ∧ ι.le ι' ∧ CT P W0 ι' h' w' ∧ RE nt ι' e' a' ∧ Q x e' h'
def W (P : Program) (W0 : World) (nt : Nat) (c : Code) (e : Env) (h : Heap) (Q : QT) : Prop :=
 ∀ (ι : Ren) (a : Act) (w : World), CT P W0 ι h w → RE nt ι e a → c.wp P (HG P W0 nt ι Q) a w
def B6 (e : Env) : Op → Option (FuncId × List Value)
 | .call { callee := .value f, args := xs, argTypes := _ } =>
  match e.op f with
  | .func (.func g) first caps => if first.size = 0 then some (g, xs.toList.map e.op ++ caps.toList) else none
  | _ => none
 | _ => none
def Ba : List Oper → Nat → Option Nat
 | [], _ => none
 | o :: _, 0 => o.dst
 | _ :: l, n + 1 => Ba l n
def Nu (want : Bool) : Value → Option Bool
 | .bool b => some (b == want)
 | .tuple _ => some false
 | _ => none
def guardOf (ops : List Oper) (e : Env) : Option (Nat × Bool) → Option Bool
 | none => some true
 | some (j, want) => match Ba ops j with
  | none => some false
  | some t => Nu want (e t)
theorem C8 : ∀ (l : List Oper) (j : Nat), Ba l j = (l[j]?).bind (·.dst)
 | [], j => by simp [Ba]
 | o :: l, 0 => by simp [Ba]
 | o :: l, n + 1 => by simp [Ba, C8 l n]
theorem Ka {ops : Array Oper} {nt : Nat} {ι : Ren} {e : Env} {a : Act} {o : Oper} {b : Bool} (re : RE nt ι e a) (h : guardOf ops.toList e o.guard = some b) : Region.wanted o (yielded ops a.tmps) = b := by
 unfold guardOf at h
 unfold Region.wanted
 split at h
 ·rename_i hg; cases h; simp [hg]
 ·rename_i j want hg
  simp only [hg]
  unfold yielded
  rw [C8, Array.getElem?_toList] at h
  split at h
  ·rename_i hd; cases h; rw [hd]; rfl
  ·rename_i t hd
   rw [hd]
   have r := re.slot t
   unfold Nu at h
   split at h
   ·rename_i v hv
    cases h
    rw [hv] at r
    have r : a.tmps.getD t undef = .bool v := r
    have : a.tmps[t]? = some (.bool v) := by
     cases hx : a.tmps[t]? with
     | none => simp [Array.getD_eq_getD_getElem?, hx, undef] at r
     | some y => simp [Array.getD_eq_getD_getElem?, hx] at r; rw [r]
    simp [this]
   ·rename_i vs hv
    cases h
    rw [hv] at r
    obtain ⟨vs', r, _⟩ := r
    cases hx : a.tmps[t]? with
    | none => simp [hx]
    | some y => simp [Array.getD_eq_getD_getElem?, hx] at r; simp [hx, r]
   ·cases h
theorem K8 {nt : Nat} {ι : Ren} {e : Env} {a : Act} {o : Oper} {f : FuncId} {args : List Value} (re : RE nt ι e a) (hok : Zv o.op = true) (hc : B6 e o.op = some (f, args)) (hf : V2 P f = true) (w : World) :
  ∃ args' : Array Value, (execOp a.eval o).run P w = .ok (.enter f args') w ∧ BJ (R ι) args args'.toList := by
 obtain ⟨dst, op, ty, pos, after, guard⟩ := o
 have hops : ∀ x ∈ op.operands.toList, GK x = true := List.all_eq_true.1 hok
 simp only at hc
 unfold B6 at hc
 split at hc
 ·rename_i fo xs ts
  split at hc
  ·rename_i g first caps hfo
   split at hc
   ·rename_i h0
    cases hc
    have hf0 : first = #[] := by simpa using h0
    subst hf0
    have r := re.op (hops fo (by simp [Op.operands, Call.operands]))
    rw [hfo] at r
    obtain ⟨_, caps', hv, hcaps⟩ := r
    have hargs := YR re (l := xs.toList) fun x hx => hops x (by simp [Op.operands, Call.operands]; right; simpa using hx)
    refine ⟨xs.map a.eval ++ caps', ?_, ?_⟩
    ·unfold V2 at hf
     split at hf
     ·rename_i fn hfn
      rw [Bool.and_eq_true] at hf
      have hn : (fn.name == "runtime.NumGoroutine") = false := by simpa using hf.1
      have hn' : ¬ fn.name = "runtime.NumGoroutine" := by simpa using hn
      have hb : ¬ fn.body = none := by intro hbb; rw [hbb] at hf; simp at hf
      simp [execOp, resolve, hv, Deferred.ofValue, invoke, callFunc, hfn, hn', hb]
     ·cases hf
    ·rw [Array.toList_append, Array.toList_map]
     refine hargs.append (hcaps.imp fun x y ⟨q, c, h1, h2, h3, h4⟩ => ?_)
     rw [h1]; exact RS.toR ⟨c, h2, h3, h4⟩
   ·cases hc
  ·cases hc
 ·cases hc
def gate (g : Bool) (A B : Prop) : Prop := (g = true → A) ∧ (g = false → B)
def andThen (r : Option (Value × Heap)) (K : Value → Heap → Prop) : Prop := match r with | some (v, h) => K v h | none => False
def guarded (g : Option Bool) (A B : Prop) : Prop := match g with | some b => gate b A B | none => False
def H9 (P : Program) (W0 : World) (e : Env) (h : Heap) (o : Op) (K : Value → Heap → Prop) : Prop :=
 match B6 e o with
 | some (f, args) => WC P W0 f args h K
 | none => andThen (C3 P e h o) K
def W4 (P : Program) (W0 : World) (ops : List Oper) : List Oper → Env → Heap → QT → Prop
 | [], e, h, Q => Q .normal e h
 | o :: r, e, h, Q => guarded (guardOf ops e o.guard) (H9 P W0 e h o.op fun v h' => W4 P W0 ops r (e.putO o.dst v) h' Q) (W4 P W0 ops r (e.putO o.dst undef) h Q)
def Eh (nt : Nat) (o : Oper) : Bool := Zv o.op && (match o.dst with | some d => decide (d < nt) | none => true)
theorem OM {ι : Ren} : R ι undef undef := ⟨#[], rfl, .nil⟩
theorem LQ {nt : Nat} {o : Oper} (h : Eh nt o = true) : Zv o.op = true ∧ ∀ d, o.dst = some d → d < nt := by
 unfold Eh at h
 rw [Bool.and_eq_true] at h
 refine ⟨h.1, fun d hd => ?_⟩
 have := h.2; rw [hd] at this; simpa using this
theorem bq {nt : Nat} {ι : Ren} {Q : QT} : ¬ LetsOut (HG P W0 nt ι Q) := by
 rintro ⟨a, w, x, e', h', ι2, h1, _⟩; cases x <;> cases h1
theorem Pl {nt : Nat} {ops : Array Oper} {Q : QT} {ι ι' : Ren} (hle : ι.le ι') : ∀ (l : List Oper) (a : Act) (w : World), wpList P ops (HG P W0 nt ι' Q) l a w → wpList P ops (HG P W0 nt ι Q) l a w := by
 intro l
 have hQ : ∀ e a w, HG P W0 nt ι' Q e a w → HG P W0 nt ι Q e a w :=
  fun e a w ⟨x, e', h', ι2, h1, h2, h3⟩ => ⟨x, e', h', ι2, h1, Ren.le_trans hle h2, h3⟩
 induction l with
 | nil => intro a w hh; exact hQ _ _ _ hh
 | cons o l ih =>
  intro a w hh
  unfold wpList at hh ⊢
  split
  ·rename_i hw
   rw [if_pos hw] at hh
   rcases hh with hh | hh
   ·left
    unfold Oper.wp at hh ⊢
    generalize (execOp a.eval o).run P w = r at hh ⊢
    cases r with
    | ok n w' =>
     cases n <;> simp only [Oper.upon] at hh ⊢ <;> first
      | exact ih _ _ hh
      | exact Calls.mono hh (fun e w'' he => by cases e <;> first | exact ih _ _ he | exact hQ _ _ _ he | exact (bq he).elim)
      | exact Rows.mono hh (fun _ _ he => ih _ _ he)
      | exact hh
    | halt x w' => cases x <;> simp only [Oper.upon] at hh ⊢ <;> first | exact hQ _ _ _ hh | exact hh
   ·exact (bq hh.2).elim
  ·rename_i hw
   rw [if_neg hw] at hh
   exact ih _ _ hh
theorem NS {nt : Nat} {ops : Array Oper} : ∀ (l : List Oper), (∀ o ∈ l, Eh nt o = true) → ∀ (e : Env) (h : Heap) (Q : QT) (ι : Ren) (a : Act) (w : World), W4 P W0 ops.toList l e h Q →
    CT P W0 ι h w → RE nt ι e a → wpList P ops (HG P W0 nt ι Q) l a w
  | [], _, e, h, Q, ι, a, w, hv, hs, hr => ⟨.normal, e, h, ι, rfl, Ren.le_refl _, hs, hr, hv⟩
  | o :: l, hok, e, h, Q, ι, a, w, hv, hs, hr => by
    have ⟨hop, hd⟩ := LQ (hok o (by simp))
    have hok' : ∀ o ∈ l, Eh nt o = true := fun x hx => hok x (by simp [hx])
    have next : ∀ (ι' : Ren) (v v' : Value) (h' : Heap) (w' : World), ι.le ι' → CT P W0 ι' h' w' → R ι' v v' → W4 P W0 ops.toList l (e.putO o.dst v) h' Q →
        wpList P ops (HG P W0 nt ι Q) l (a.put o.dst v') w' := fun ι' v v' h' w' hle hs' hR hv' =>
      Pl hle l _ _ (NS l hok' (e.putO o.dst v) h' Q ι' (a.put o.dst v') w' hv' hs' ((hr.mono hle).putO hd hR))
    simp only [W4, guarded] at hv
    split at hv
    · rename_i g hg
      have hw := Ka hr hg
      unfold wpList
      cases g with
      | false =>
        rw [if_neg (by rw [hw]; decide)]
        exact next ι undef undef h w (Ren.le_refl _) hs OM (hv.2 rfl)
      | true =>
        replace hv := hv.1 rfl
        rw [if_pos hw]
        left
        unfold H9 at hv
        split at hv
        · rename_i f args hc
          obtain ⟨args', hrun, hargs⟩ := K8 hr hop hc hv.1 w
          unfold Oper.wp
          rw [hrun]
          simp only [Oper.upon]
          exact (hv.2 ι w args' hs hargs).mono fun e w' ⟨v, v', h', ι', h1, h2, h3, h4, h5⟩ => by subst h1; exact next ι' v v' h' w' h2 h3 h4 h5
        · unfold andThen at hv
          split at hv
          · rename_i v h' ho
            obtain ⟨ι', w', v', hd', h2, h3, h4⟩ := Nf hs hr hop ho
            unfold Oper.wp
            rcases hd' with hd' | ⟨hd', rfl⟩
            · rw [hd']; simp only [Oper.upon]; exact next ι' v v' h' w' h2 h3 h4 hv
            · rw [hd']; simp only [Oper.upon]; exact next ι' v undef h' w' h2 h3 h4 hv
          · cases hv
    · cases hv
end Go.Ai
namespace Go.Ai
variable {P : Program} {W0 : World}
def Heap.le (h h' : Heap) : Prop := h.n ≤ h'.n ∧ ∀ b, b < h.n → h'.get b = h.get b
theorem Heap.le_refl (h : Heap) : h.le h := ⟨Nat.le_refl _, fun _ _ => rfl⟩
theorem Heap.le_trans {a b c : Heap} (h : a.le b) (h' : b.le c) : a.le c := ⟨Nat.le_trans h.1 h'.1, fun x hx => (h'.2 x (Nat.lt_of_lt_of_le hx h.1)).trans (h.2 x hx)⟩
theorem Heap.le_push (h : Heap) (k : Kc) : h.le (h.push k) := ⟨by simp [Heap.push], fun b hb => by simp [Heap.push]; omega⟩
def fw (K : Env → Heap → Prop) (Q : QT) : QT
 | .normal, e, h => K e h
 | .ret, e, h => Q .ret e h
 | .exit j, e, h => Q (.exit j) e h
def Io (id : Nat) (Q : QT) : QT
 | .normal, e, h => Q .normal e h
 | .ret, e, h => Q .ret e h
 | .exit j, e, h => if j = id then Q .normal e h else Q (.exit j) e h
def NW (I : Nat → Env → Heap → Prop) (n : Nat) (Q : QT) : QT
 | .normal, e, h => ∃ m, m < n ∧ I m e h
 | .ret, e, h => Q .ret e h
 | .exit j, e, h => Q (.exit j) e h
def Ti (v : Value) (A B : Prop) : Prop := match v with | .bool b => gate b A B | _ => False
abbrev DT := List Oper → Env → Heap → QT → Prop
def hole : Value := .chan none
def eQ (ks : List Nat) (e : Env) : Env := fun t => if ks.contains t then e t else hole
def Rh : Option (List Nat) → Env → Env
 | none, e => e
 | some ks, e => eQ ks e
structure ID where
 d : DT
 cp : Nat → Option (List Nat)
theorem Th {nt : Nat} {ι : Ren} {e : Env} {a : Act} (o : Option (List Nat)) (r : RE nt ι e a) : RE nt ι (Rh o e) a := by
 cases o with
 | none => exact r
 | some ks =>
  refine ⟨r.defers, r.size, fun t => ?_⟩
  simp only [Rh, eQ]
  split
  ·exact r.slot t
  ·exact trivial
def Qv (P : Program) (W0 : World) (D : ID) : Code → Env → Heap → QT → Prop
 | .skip, e, h, Q => Q .normal e h
 | .region id ops false, e, h, Q => W4 P W0 ops.toList ops.toList (Rh (D.cp id) e) h Q
 | .region id ops true, e, h, Q => D.d ops.toList (Rh (D.cp id) e) h Q
 | .seq a b, e, h, Q => Qv P W0 D a e h (fw (fun e h => Qv P W0 D b e h Q) Q)
 | .cond c t f, e, h, Q => Ti (e.op c) (Qv P W0 D t e h Q) (Qv P W0 D f e h Q)
 | .block id b, e, h, Q => Qv P W0 D b e h (Io id Q)
 | .loop b, e, h, Q => ∃ (I : Nat → Env → Heap → Prop) (n : Nat), I n e h ∧ ∀ n e h, I n e h → Qv P W0 D b e h (NW I n Q)
 | .exit id, e, h, Q => Q (.exit id) e h
 | .ret, e, h, Q => Q .ret e h
 | _, _, _, _ => False
def Bd (nt : Nat) (okD : List Oper → Bool) : Code → Bool
 | .region _ ops d => ops.toList.all (Eh nt) && (!d || okD ops.toList)
 | .seq a b => Bd nt okD a && Bd nt okD b
 | .cond c t f => GK c && Bd nt okD t && Bd nt okD f
 | .block _ b => Bd nt okD b
 | .loop b => Bd nt okD b
 | .skip | .exit _ | .ret => true
 | _ => false
def LC (P : Program) (W0 : World) (nt : Nat) (D : DT) (okD : List Oper → Bool) : Prop :=
 ∀ (id : Nat) (ops : Array Oper) (e : Env) (h : Heap) (Q : QT), (∀ o ∈ ops.toList, Eh nt o = true) → okD ops.toList = true → D ops.toList e h Q → W P W0 nt (.region id ops true) e h Q
theorem cf {nt : Nat} {b : Code} {e : Env} {h : Heap} {Q : QT} (I : Nat → Env → Heap → Prop) (n : Nat) (h0 : I n e h)
  (hr : ∀ n e h, I n e h → W P W0 nt b e h (NW I n Q)) : W P W0 nt (.loop b) e h Q := by
 intro ι a w hs hre
 have key : ∀ (n : Nat) (e : Env) (h : Heap) (a : Act) (w : World) (ι1 : Ren), ι.le ι1 → I n e h → CT P W0 ι1 h w → RE nt ι1 e a → Code.rounds P b (HG P W0 nt ι Q) (n + 1) a w := by
  intro n
  induction n using Nat.strongRecOn with
  | _ n ih =>
   intro e h a w ι1 hle hI hs hre
   rw [rounds_succ]
   refine wp_mono (hr n e h hI ι1 a w hs hre) ?_
   rintro e1 a' w' ⟨x, e', h', ι', rfl, h2, h3, h4, h5⟩
   cases x with
   | normal =>
    obtain ⟨m, hm, hI'⟩ := h5
    have := ih m hm e' h' a' w' ι' (Ren.le_trans hle h2) hI' h3 h4
    have up : ∀ (k : Nat) (a : Act) (w : World), Code.rounds P b (HG P W0 nt ι Q) k a w → ∀ j, Code.rounds P b (HG P W0 nt ι Q) (k + j) a w := by
     intro k
     induction k with
     | zero => intro a w hh; exact hh.elim
     | succ k ihk =>
      intro a w hh j
      rw [show k + 1 + j = (k + j) + 1 by omega, rounds_succ]
      rw [rounds_succ] at hh
      refine wp_mono hh fun e a w he => ?_
      cases e <;> first | exact ihk _ _ he j | exact he
    have := up _ _ _ this (n - (m + 1))
    rwa [show m + 1 + (n - (m + 1)) = n by omega] at this
   | ret => exact ⟨.ret, e', h', ι', rfl, Ren.le_trans hle h2, h3, h4, h5⟩
   | exit j => exact ⟨.exit j, e', h', ι', rfl, Ren.le_trans hle h2, h3, h4, h5⟩
 exact wp_loop_rounds _ (key n e h a w ι (Ren.le_refl _) h0 hs hre)
theorem Di {nt : Nat} {D : ID} {okD : List Oper → Bool} (hD : LC P W0 nt D.d okD) : ∀ (c : Code), Bd nt okD c = true → ∀ (e : Env) (h : Heap) (Q : QT), Qv P W0 D c e h Q → W P W0 nt c e h Q
 | .skip, _, e, h, Q, hv => fun ι a w hs hr => wp_skip ⟨.normal, e, h, ι, rfl, Ren.le_refl _, hs, hr, hv⟩
 | .region id ops false, hok, e, h, Q, hv => fun ι a w hs hr => by
  simp only [Bd, Bool.and_eq_true] at hok
  exact wp_region_list (NS ops.toList (List.all_eq_true.1 hok.1) _ h Q ι a w hv hs (Th _ hr))
 | .region id ops true, hok, e, h, Q, hv => fun ι a w hs hr => by
  simp only [Bd, Bool.and_eq_true] at hok
  exact hD id ops _ h Q (List.all_eq_true.1 hok.1) (by simpa using hok.2) hv ι a w hs (Th _ hr)
 | .seq c d, hok, e, h, Q, hv => fun ι a w hs hr => by
  simp only [Bd, Bool.and_eq_true] at hok
  refine wp_seq (wp_mono (Di hD c hok.1 e h _ hv ι a w hs hr) ?_)
  rintro e1 a' w' ⟨x, e', h', ι', rfl, h2, h3, h4, h5⟩
  cases x with
  | normal => exact wp_mono (Di hD d hok.2 e' h' Q h5 ι' a' w' h3 h4) fun e a w ⟨x, s2, s3, ι2, g1, g2, g3⟩ => ⟨x, s2, s3, ι2, g1, Ren.le_trans h2 g2, g3⟩
  | ret => exact ⟨.ret, e', h', ι', rfl, h2, h3, h4, h5⟩
  | exit j => exact ⟨.exit j, e', h', ι', rfl, h2, h3, h4, h5⟩
 | .cond c t f, hok, e, h, Q, hv => fun ι a w hs hr => by
  simp only [Bd, Bool.and_eq_true] at hok
  simp only [Qv, Ti] at hv
  split at hv
  ·rename_i b hb
   have r := hr.op hok.1.1
   rw [hb] at r
   have r : a.eval c = .bool b := r
   cases b with
   | true => exact wp_cond_true r (Di hD t hok.1.2 e h Q (hv.1 rfl) ι a w hs hr)
   | false => exact wp_cond_false r (Di hD f hok.2 e h Q (hv.2 rfl) ι a w hs hr)
  ·cases hv
 | .block id b, hok, e, h, Q, hv => fun ι a w hs hr => by
  simp only [Bd] at hok
  refine wp_block (wp_mono (Di hD b hok e h _ hv ι a w hs hr) ?_)
  rintro e1 a' w' ⟨x, e', h', ι', rfl, h2, h3, h4, h5⟩
  cases x with
  | normal => exact ⟨.normal, e', h', ι', rfl, h2, h3, h4, h5⟩
  | ret => exact ⟨.ret, e', h', ι', rfl, h2, h3, h4, h5⟩
  | exit j =>
   simp only [Ex.of, Exit.inBlock, Io] at h5 ⊢
   split at h5
   ·rename_i hj; rw [if_pos hj]; exact ⟨.normal, e', h', ι', rfl, h2, h3, h4, h5⟩
   ·rename_i hj; rw [if_neg hj]; exact ⟨.exit j, e', h', ι', rfl, h2, h3, h4, h5⟩
 | .loop b, hok, e, h, Q, hv => by
  simp only [Bd] at hok
  obtain ⟨I, n, h0, hr⟩ := hv
  exact cf I n h0 fun n e h hI => Di hD b hok e h _ (hr n e h hI)
 | .exit id, _, e, h, Q, hv => fun ι a w hs hr => wp_exit ⟨.exit id, e, h, ι, rfl, Ren.le_refl _, hs, hr, hv⟩
 | .ret, _, e, h, Q, hv => fun ι a w hs hr => wp_ret ⟨.ret, e, h, ι, rfl, Ren.le_refl _, hs, hr, hv⟩
 | .rangeFunc .., hok, _, _, _, _ => by simp [Bd] at hok
 | .scope .., hok, _, _, _, _ => by simp [Bd] at hok
 | .label .., hok, _, _, _, _ => by simp [Bd] at hok
 | .goto .., hok, _, _, _, _ => by simp [Bd] at hok
 | .refuse .., hok, _, _, _, _ => by simp [Bd] at hok
def H7 (P : Program) (h : Heap) (e : Env) : List ResultVar → Option (List Value)
 | [] => some []
 | .tmp t :: r => match H7 P h e r with
  | some l => some (e t :: l)
  | none => none
 | .cell a t :: r => match Gs P h t (e a), H7 P h e r with
  | some v, some l => some (v :: l)
  | _, _ => none
def Ww : Value → Bool
 | .tuple _ => true
 | _ => false
def ZB (l : List Value) : Option Value := match l with
 | [v] => some v
 | l => if l.all (fun v => !isTup v) = true then some (.tuple l.toArray) else none
def DD (args : List Value) : Env := fun t => args.getD t undef
theorem BJ.getD {r : Value → Value → Prop} {l m : List Value} (h : BJ r l m) {d : Value} (hd : r d d) (t : Nat) : r (l.getD t d) (m.getD t d) := by
 simp only [List.getD_eq_getElem?_getD]
 cases hx : l[t]? with
 | none =>
  have : m[t]? = none := by rw [List.getElem?_eq_none_iff] at hx ⊢; rw [← h.length]; exact hx
  simp [this, hd]
 | some x => obtain ⟨y, hy, r⟩ := h.get hx; simp [hy, r]
def Lw (tmps : Array Value) : ResultVar → Sem Value
 | .tmp t => pure (tmps.getD t undef)
 | .cell b t => do loadVar t (← asAddr (tmps.getD b undef))
theorem RC (fn : Func) (tmps : Array Value) : results fn tmps = (do let vs ← fn.results.mapM (Lw tmps); pure (if h : vs.size = 1 then vs[0] else .tuple vs)) := by
 unfold results
 congr 1
theorem Ii {nt : Nat} {ι : Ren} {e : Env} {a : Act} {h : Heap} {w : World} (s : CT P W0 ι h w) (re : RE nt ι e a) : ∀ (rs : List ResultVar) (l : List Value), H7 P h e rs = some l →
  ∃ l' : List Value, (rs.mapM (Lw a.tmps)).run P w = .ok l' w ∧ BJ (R ι) l l'
 | [], l, hl => by simp [H7] at hl; subst hl; exact ⟨[], by simp, .nil⟩
 | .tmp t :: rs, l, hl => by
  simp only [H7] at hl
  split at hl
  ·rename_i l0 h0
   cases hl
   obtain ⟨l', h1, h2⟩ := Ii s re rs l0 h0
   exact ⟨_ :: l', by rw [List.mapM_cons]; simp only [Lw, Sem.run_bind, Sem.run_pure, Result.andThen_ok]; rw [h1]; rfl, .cons (re.slot t) h2⟩
  ·cases hl
 | .cell b t :: rs, l, hl => by
  simp only [H7] at hl
  split at hl
  ·rename_i v l0 hv h0
   cases hl
   obtain ⟨l', h1, h2⟩ := Ii s re rs l0 h0
   obtain ⟨v', h3, h4⟩ := Ma s hv (re.slot b)
   refine ⟨v' :: l', ?_, .cons h4 h2⟩
   have hp : ∃ q, a.tmps.getD b undef = .pointer (some q) := by
    have r := re.slot b
    unfold Gs at hv
    split at hv
    ·rename_i q hq; rw [hq] at r; obtain ⟨c, _, _, hc⟩ := r; exact ⟨_, hc⟩
    ·cases hv
   obtain ⟨q, hq⟩ := hp
   rw [hq] at h3
   rw [List.mapM_cons]
   have h5 : (Lw a.tmps (.cell b t)).run P w = .ok v' w := by
    simp only [Lw, hq, asAddr, Sem.run_bind, Sem.run_pure, Result.andThen_ok]
    simp only [Instr.loadAt, Instr.sureAddr, Sem.run_bind, Sem.run_pure, Result.andThen_ok] at h3
    exact h3
   simp only [Sem.run_bind, Sem.run_pure, h5, Result.andThen_ok]
   rw [h1]; rfl
  ·cases hl
theorem fR {ι : Ren} {x y : Value} (h : Ww x = false) (r : R ι x y) : RG ι x y := by
 unfold R at r; split at r
 ·simp [Ww] at h
 ·exact r
theorem TF {ι : Ren} : ∀ {l m : List Value}, (l.all fun v => !isTup v) = true → BJ (R ι) l m → BJ (RG ι) l m
 | _, _, _, .nil => .nil
 | _, _, h, .cons a b => by
  rw [List.all_cons, Bool.and_eq_true] at h
  exact .cons (fR (by simpa using h.1) a) (TF h.2 b)
def RJ (r : Option (List Value)) (h : Heap) (Q : Value → Heap → Prop) : Prop := match r with
 | some l => match ZB l with
  | some v => Q v h
  | none => False
 | none => False
def ends (P : Program) (rs : List ResultVar) (Q : Value → Heap → Prop) : QT
 | .exit _, _, _ => False
 | .normal, e, h => RJ (H7 P h e rs) h Q
 | .ret, e, h => RJ (H7 P h e rs) h Q
theorem LX {D : ID} {okD : List Oper → Bool} {f : FuncId} {fn : Func} {c : Code} (hD : LC P W0 fn.ntmps D.d okD) (hf : P.funcs[f]? = some fn) (hb : fn.body = some c)
    (hn : (fn.name != "runtime.NumGoroutine") = true) (hok : Bd fn.ntmps okD c = true) {args : List Value} {h : Heap} (hlen : args.length ≤ fn.ntmps) {Q : Value → Heap → Prop}
    (hv : Qv P W0 D c (DD args) h (ends P fn.results.toList Q)) : WC P W0 f args h Q := by
  refine ⟨by simp [V2, hf, hb, hn], fun ι w args' hs ha => calls_of_wp hf hb ?_⟩
  have hl := ha.length
  have hsz : args'.size = args.length := by rw [hl]; simp
  have hre : RE fn.ntmps ι (DD args) { tmps := args' ++ Array.replicate (fn.ntmps - args'.size) undef, defers := [] } := by
    refine ⟨rfl, by simp; omega, fun t => ?_⟩
    have h1 := ha.getD (OM (ι := ι)) t
    unfold DD
    have h2 : (args' ++ Array.replicate (fn.ntmps - args'.size) undef).getD t undef = args'.toList.getD t undef := by
      simp only [Array.getD_eq_getD_getElem?, List.getD_eq_getElem?_getD, Array.getElem?_toList, Array.getElem?_append, Array.getElem?_replicate]
      split
      · rfl
      · rename_i h3
        rw [Array.getElem?_eq_none (by omega)]
        split <;> rfl
    rw [h2]; exact h1
  refine wp_mono (Di hD c hok (DD args) h _ hv ι _ w hs hre) ?_
  rintro e1 a' w' ⟨x, e', h', ι', rfl, h2, h3, h4, h5⟩
  have fin : RJ (H7 P h' e' fn.results.toList) h' Q →
      a'.defers = [] ∧ ∃ v, (results fn a'.tmps).run P w' = .ok v w' ∧ ∃ v0 v' h' ι'', Ending.returned v = .returned v' ∧ ι.le ι'' ∧ CT P W0 ι'' h' w' ∧ R ι'' v0 v' ∧ Q v0 h' := by
    intro h5
    refine ⟨h4.defers, ?_⟩
    unfold RJ at h5
    split at h5
    · rename_i l hl
      split at h5
      · rename_i v hv
        obtain ⟨l', g1, g2⟩ := Ii h3 h4 fn.results.toList l hl
        have hr : (results fn a'.tmps).run P w' = .ok (if h : l'.toArray.size = 1 then l'.toArray[0] else .tuple l'.toArray) w' := by
          rw [RC, Array.mapM_eq_mapM_toList]
          simp only [Sem.run_bind, Sem.run_map, Sem.run_pure]
          rw [g1]; rfl
        refine ⟨_, hr, v, _, h', ι', rfl, h2, h3, ?_, h5⟩
        unfold ZB at hv
        split at hv
        · cases hv
          match l', g2 with
          | [y], .cons r .nil => simpa using r
        · rename_i hne
          split at hv
          · rename_i ht
            cases hv
            have : l'.toArray.size ≠ 1 := by
              intro he
              have : l.length = 1 := by rw [g2.length]; simpa using he
              match l, this with
              | [x], _ => exact hne x rfl
            rw [dif_neg this]
            exact ⟨_, rfl, by simpa using TF ht g2⟩
          · cases hv
      · cases h5
    · cases h5
  cases x with
  | normal => exact fin h5
  | ret => exact fin h5
  | exit j => exact h5.elim
end Go.Ai
namespace Go.Ai
inductive Ar {α : Type} (a : α) : Type
 | mk
abbrev KT := Value → Heap → Prop
def look (e : Env) (t : Nat) (_ : Ar e) : Value := e t
def C0 (e : Env) (x : Operand) (_ : Ar e) : Value := e.op x
def Ce (e : Env) (l : List Operand) (_ : Ar e) : List Value := l.map e.op
def hg (h : Heap) (b : Nat) (_ : Ar h) : Option Kc := h.get b
def hn (h : Heap) (_ : Ar h) : Nat := h.n
section
variable (P : Program) (W0 : World) (D : ID)
def cz (c : Code) (e : Env) (h : Heap) (Q : QT) (_ : Ar (c, e, h, Q, D)) : Prop := Qv P W0 D c e h Q
def qz (Q : QT) (x : Ex) (e : Env) (h : Heap) (_ : Ar (Q, e, h)) : Prop := Q x e h
def oz (ops l : List Oper) (e : Env) (h : Heap) (Q : QT) (_ : Ar (ops, l, e, h, Q)) : Prop := W4 P W0 ops l e h Q
def xz (o : Op) (e : Env) (h : Heap) (K : KT) (_ : Ar (o, e, h, K)) : Prop := H9 P W0 e h o K
def wz (f : FuncId) (a : List Value) (h : Heap) (K : KT) (_ : Ar (h, K)) : Prop := WC P W0 f a h K
def lz (b : Code) (e : Env) (h : Heap) (Q : QT) (_ : Ar (b, e, h, Q, D)) : Prop := Qv P W0 D (.loop b) e h Q
def bZ (l : List Oper) (e : Env) (h : Heap) (Q : QT) (_ : Ar (l, e, h, Q, D)) : Prop := D.d l e h Q
def rz (e : Env) (h : Heap) (rs : List ResultVar) (_ : Ar (e, h)) : Option (List Value) := H7 P h e rs
def N1 (b : Code) (Q : QT) : QT := fw (fun e h => Qv P W0 D b e h Q) Q
def oK (ops r : List Oper) (d : Option Tmp) (e : Env) (Q : QT) : KT := fun v h' => W4 P W0 ops r (e.putO d v) h' Q
end
def kz (K : KT) (v : Value) (h : Heap) (_ : Ar (K, h)) : Prop := K v h
def bz (o : Option Value) (h : Heap) (K : KT) (_ : Ar (h, K)) : Prop := match o with | some v => K v h | none => False
def az (o : Option (Value × Heap)) (K : KT) (_ : Ar K) : Prop := andThen o K
def sz (o : Option Heap) (K : KT) (_ : Ar K) : Prop := match o with | some h' => K undef h' | none => False
def gz (b : Bool) (A B : Prop) (_ : Ar (A, B)) : Prop := gate b A B
def gd (b : Option Bool) (A B : Prop) (_ : Ar (A, B)) : Prop := guarded b A B
def dz (v : Value) (A B : Prop) (_ : Ar (A, B)) : Prop := Ti v A B
def ez (r : Option (List Value)) (h : Heap) (K : KT) (_ : Ar (h, K)) : Prop := RJ r h K
def nz (cs : Option (List Value)) (n : Option Nat) (h : Heap) (K : KT) (_ : Ar (h, K)) : Prop := match cs, n with | some cs, some n => K (.pointer (some ⟨h.n, 0, none⟩)) (h.push ⟨true, n, cs⟩) | _, _ => False
def bh (r : Option (List Value)) (z n : Nat) (h : Heap) (K : KT) (_ : Ar (h, K)) : Prop := match r with | some l => K (.slice (some ⟨h.n, 0, none⟩) n n) (h.push ⟨true, z, l⟩) | none => False
def Zc (P : Program) (W0 : World) (v : Value) (xs : List Value) (h : Heap) (K : KT) (_ : Ar (h, K)) : Prop := match v with | .func (.func g) first caps => if first.size = 0 then WC P W0 g (xs ++ caps.toList) h K else False | _ => False
variable {P : Program} {W0 : World} {D : ID} {e : Env} {h : Heap} {Q : QT} {K : KT}
def pk (b : Bool) (v : Value) (e : Env) (t : Nat) (_ : Ar (v, e)) : Value := match b with | true => v | false => e t
theorem cu {v : Value} {t : Nat} : pk true v e t .mk = v := rfl
theorem dw {v : Value} {t : Nat} : pk false v e t .mk = look e t .mk := rfl
theorem HB {d t : Nat} {v : Value} : look (e.put d v) t .mk = pk (t == d) v e t .mk := by
 simp only [look, Env.put, pk]; by_cases ht : t = d
 ·simp [ht]
 ·have : (t == d) = false := by simp [ht]
  rw [if_neg ht, this]
theorem KB {d t : Nat} {v : Value} : look (e.putO (some d) v) t .mk = pk (t == d) v e t .mk := HB
def hk (b : Bool) (o : Option Kc) (h : Heap) (c : Nat) (_ : Ar (o, h)) : Option Kc := match b with | true => o | false => h.get c
theorem Wd {o : Option Kc} {c : Nat} : hk true o h c .mk = o := rfl
theorem E9 {o : Option Kc} {c : Nat} : hk false o h c .mk = hg h c .mk := rfl
theorem YA {v : Value} {l : List Value} : look (DD (v :: l)) 0 .mk = v := rfl
theorem WX {v : Value} {l : List Value} {n : Nat} : look (DD (v :: l)) (n + 1) .mk = look (DD l) n .mk := by simp [DD, look]
theorem Rf {t : Nat} : C0 e (.tmp t) .mk = look e t .mk := rfl
theorem Lr {v : Value} : C0 e (.const v) .mk = v := rfl
theorem Ju : Ce e [] .mk = [] := rfl
theorem IT {x : Operand} {l : List Operand} : Ce e (x :: l) .mk = C0 e x .mk :: Ce e l .mk := rfl
theorem Lv {b c : Nat} {o : Option Kc} : (if b = c then o else h.get b) = hk (b == c) o h b .mk := by
 unfold hk; by_cases hb : b = c
 ·simp [hb]
 ·have : (b == c) = false := by simp [hb]
  rw [if_neg hb, this]
theorem Ap {k : Kc} {b : Nat} : hg (h.push k) b .mk = hk (b == hn h .mk) (some k) h b .mk := Lv
theorem AB {k : Kc} : hn (h.push k) .mk = hn h .mk + 1 := rfl
theorem Q3 : cz P W0 D .skip e h Q .mk = qz Q .normal e h .mk := rfl
theorem X2 : cz P W0 D .ret e h Q .mk = qz Q .ret e h .mk := rfl
theorem RY {id : Nat} : cz P W0 D (.exit id) e h Q .mk = qz Q (.exit id) e h .mk := rfl
theorem Wo {a b : Code} : cz P W0 D (.seq a b) e h Q .mk = cz P W0 D a e h (N1 P W0 D b Q) .mk := rfl
theorem O3 {id : Nat} {b : Code} : cz P W0 D (.block id b) e h Q .mk = cz P W0 D b e h (Io id Q) .mk := rfl
theorem CV {c : Operand} {a b : Code} : cz P W0 D (.cond c a b) e h Q .mk = dz (C0 e c .mk) (cz P W0 D a e h Q .mk) (cz P W0 D b e h Q .mk) .mk := rfl
theorem Sn {b : Code} : cz P W0 D (.loop b) e h Q .mk = lz P W0 D b e h Q .mk := rfl
def ctz (F : Env → Prop) (ks : List Nat) (e E : Env) (_ : Ar (F, e, E)) : Prop := F fun t => if ks.contains t then e t else E t
def dK (F : Env → Prop) (ks : List Nat) (e : Env) (k : Nat) (v : Value) (E : Env) (_ : Ar (F, e, E)) : Prop := F fun t => if ks.contains t then e t else E.put k v t
def XR (F : Env → Prop) (o : Option (List Nat)) (e : Env) (_ : Ar (F, e)) : Prop := F (Rh o e)
def gu : Env := fun _ => hole
def fz (F : Env → Prop) (e : Env) (_ : Ar (F, e)) : Prop := F e
theorem O1 {F : Env → Prop} {e E : Env} : ctz F [] e E .mk = fz F E .mk := by simp [ctz, fz]
theorem Mn {F : Env → Prop} {e E : Env} {k : Nat} {ks : List Nat} : ctz F (k :: ks) e E .mk = dK F ks e k (look e k .mk) E .mk := by
 simp only [ctz, dK, look]
 congr 1
 funext t
 by_cases ht : t = k
 ·subst ht; simp [Env.put]
 ·simp [Env.put, ht]
theorem OG {F : Env → Prop} {e E : Env} {k : Nat} {v : Value} {ks : List Nat} : dK F ks e k v E .mk = ctz F ks e (E.put k v) .mk := rfl
theorem MR {F : Env → Prop} {e : Env} {ks : List Nat} : XR F (some ks) e .mk = ctz F ks e gu .mk := rfl
def QL (D : ID) (id : Nat) (_ : Ar D) : Option (List Nat) := D.cp id
def Ro (l : List (List Nat)) (id : Nat) : Option (List Nat) := l[id]?
theorem cD {d : DT} {a : List Nat} {l : List (List Nat)} : QL ⟨d, Ro (a :: l)⟩ 0 .mk = some a := rfl
theorem cU {d : DT} {a : List Nat} {l : List (List Nat)} {n : Nat} : QL ⟨d, Ro (a :: l)⟩ (n + 1) .mk = QL ⟨d, Ro l⟩ n .mk := by simp [QL, Ro]
def cY (P : Program) (W0 : World) (l : List Oper) (h : Heap) (Q : QT) : Env → Prop := fun e => W4 P W0 l l e h Q
def cm (D : ID) (l : List Oper) (h : Heap) (Q : QT) : Env → Prop := fun e => D.d l e h Q
theorem Lz {id : Nat} {l : List Oper} : cz P W0 D (.region id l.toArray false) e h Q .mk = XR (cY P W0 l h Q) (QL D id .mk) e .mk := by simp [cz, Qv, XR, cY, QL]
theorem Jq {id : Nat} {l : List Oper} : cz P W0 D (.region id l.toArray true) e h Q .mk = XR (cm D l h Q) (QL D id .mk) e .mk := by simp [cz, Qv, XR, cm, QL]
theorem Wr {l : List Oper} : fz (cY P W0 l h Q) e .mk = oz P W0 l l e h Q .mk := rfl
theorem W3 {l : List Oper} : fz (cm D l h Q) e .mk = bZ D l e h Q .mk := rfl
theorem SZ {b : Bool} {A B : Prop} : dz (.bool b) A B .mk = gz b A B .mk := rfl
theorem S3 {A B : Prop} : gz true A B .mk = A := by simp [gz, gate]
theorem PE {A B : Prop} : gz false A B .mk = B := by simp [gz, gate]
theorem RN {b : Code} : qz (N1 P W0 D b Q) .normal e h .mk = cz P W0 D b e h Q .mk := rfl
theorem SJ {b : Code} : qz (N1 P W0 D b Q) .ret e h .mk = qz Q .ret e h .mk := rfl
theorem SM {b : Code} {j : Nat} : qz (N1 P W0 D b Q) (.exit j) e h .mk = qz Q (.exit j) e h .mk := rfl
theorem Lc {id : Nat} : qz (Io id Q) .normal e h .mk = qz Q .normal e h .mk := rfl
theorem MQ {id : Nat} : qz (Io id Q) .ret e h .mk = qz Q .ret e h .mk := rfl
theorem LK {id j : Nat} : qz (Io id Q) (.exit j) e h .mk = if j = id then qz Q .normal e h .mk else qz Q (.exit j) e h .mk := rfl
def gY (I : Nat → Env → Heap → Prop) (n : Nat) (e : Env) (h : Heap) (_ : Ar (I, n, e, h)) : Prop := ∃ m, m < n ∧ I m e h
theorem PO {I : Nat → Env → Heap → Prop} {n : Nat} : qz (NW I n Q) .normal e h .mk = gY I n e h .mk := rfl
theorem PV {I : Nat → Env → Heap → Prop} {n : Nat} : qz (NW I n Q) .ret e h .mk = qz Q .ret e h .mk := rfl
theorem OU {I : Nat → Env → Heap → Prop} {n j : Nat} : qz (NW I n Q) (.exit j) e h .mk = qz Q (.exit j) e h .mk := rfl
theorem Sp {rs : List ResultVar} : qz (ends P rs K) .ret e h .mk = ez (rz P e h rs .mk) h K .mk := rfl
theorem Rw : rz P e h [] .mk = some [] := rfl
def KR (v : Option Value) (l : Option (List Value)) : Option (List Value) := match v, l with | some v, some l => some (v :: l) | _, _ => none
theorem IP {v : Value} {l : List Value} : KR (some v) (some l) = some (v :: l) := rfl
theorem SD {t : Nat} {r : List ResultVar} : rz P e h (.tmp t :: r) .mk = KR (some (look e t .mk)) (rz P e h r .mk) := by simp only [rz, H7, KR, look]; cases H7 P h e r <;> rfl
def FL (P : Program) (h : Heap) (t : TypeId) (v : Value) (_ : Ar h) : Option Value := Gs P h t v
theorem gi {v : Value} : ez (some [v]) h K .mk = kz K v h .mk := rfl
theorem ko {ops r : List Oper} {d : Option Tmp} {v : Value} : kz (oK P W0 ops r d e Q) v h .mk = oz P W0 ops r (e.putO d v) h Q .mk := rfl
theorem Sc {v : Value} : bz (some v) h K .mk = kz K v h .mk := rfl
theorem SF {v : Value} {h' : Heap} : az (some (v, h')) K .mk = kz K v h' .mk := rfl
theorem Rx {cs : List Value} {n : Nat} : nz (some cs) (some n) h K .mk = kz K (.pointer (some ⟨hn h .mk, 0, none⟩)) (h.push ⟨true, n, cs⟩) .mk := rfl
theorem N7 {l : List Value} {z n : Nat} : bh (some l) z n h K .mk = kz K (.slice (some ⟨hn h .mk, 0, none⟩) n n) (h.push ⟨true, z, l⟩) .mk := rfl
theorem Wa {ops : List Oper} : oz P W0 ops [] e h Q .mk = qz Q .normal e h .mk := rfl
theorem S1 {ops r : List Oper} {d : Option Tmp} {o : Op} {t : TypeId} {p : String} {a : Array Edge} :
  oz P W0 ops (⟨d, o, t, p, a, none⟩ :: r) e h Q .mk = xz P W0 o e h (oK P W0 ops r d e Q) .mk := by
 show gate true (H9 P W0 e h o (oK P W0 ops r d e Q)) _ = H9 P W0 e h o (oK P W0 ops r d e Q)
 simp only [gate]; exact propext ⟨fun hh => hh.1 trivial, fun hh => ⟨fun _ => hh, fun hf => absurd hf (by simp)⟩⟩
theorem PK {ops r : List Oper} {d : Option Tmp} {o : Op} {t : TypeId} {p : String} {a : Array Edge} {j : Nat} {b : Bool} :
    oz P W0 ops (⟨d, o, t, p, a, some (j, b)⟩ :: r) e h Q .mk =
      gd (guardOf ops e (some (j, b))) (xz P W0 o e h (oK P W0 ops r d e Q) .mk) (oz P W0 ops r (e.putO d undef) h Q .mk) .mk := rfl
def T2 (l : List Oper) (j : Nat) (_ : Ar l) : Option Nat := Ba l j
def gJ (d : Option Nat) (b : Bool) (e : Env) (_ : Ar e) : Option Bool := match d with | none => some false | some t => Nu b (e t)
theorem Lt {ops : List Oper} {j : Nat} {b : Bool} : guardOf ops e (some (j, b)) = gJ (T2 ops j .mk) b e .mk := rfl
theorem LM {t : Nat} {b : Bool} : gJ (some t) b e .mk = Nu b (look e t .mk) := rfl
theorem gD {o : Oper} {l : List Oper} : T2 (o :: l) 0 .mk = o.dst := rfl
theorem fV {o : Oper} {l : List Oper} {n : Nat} : T2 (o :: l) (n + 1) .mk = T2 l n .mk := rfl
theorem Oy {b : Bool} {A B : Prop} : gd (some b) A B .mk = gz b A B .mk := rfl
theorem Mh {w b : Bool} : Nu w (.bool b) = some (b == w) := rfl
theorem de {b : Bool} : (b == true) = b := by simp
theorem dq {b : Bool} : (b == false) = !b := by cases b <;> rfl
theorem R1 {x : Operand} : xz P W0 (.move x) e h K .mk = kz K (C0 e x .mk) h .mk := rfl
theorem MM {x : Operand} : xz P W0 (.assign x) e h K .mk = kz K (C0 e x .mk) h .mk := rfl
def G2 (c a b : Value) : Option Value := match c with | .bool true => some a | .bool false => some b | _ => none
theorem R6 {c x y : Operand} : xz P W0 (.pick c x y) e h K .mk = bz (G2 (C0 e c .mk) (C0 e x .mk) (C0 e y .mk)) h K .mk := by
 simp only [xz, H9, B6, C3, andThen, bz, G2, C0]; cases e.op c <;> simp; rename_i b; cases b <;> simp
theorem Qy {a b : Value} : G2 (.bool true) a b = some a := rfl
theorem R0 {a b : Value} : G2 (.bool false) a b = some b := rfl
def pkB (c a b : Bool) : Bool := match c with | true => a | false => b
theorem fm {a b : Bool} : pkB true a b = a := rfl
theorem fe {a b : Bool} : pkB false a b = b := rfl
theorem RQ {c a b : Bool} : G2 (.bool c) (.bool a) (.bool b) = some (.bool (pkB c a b)) := by cases c <;> rfl
theorem Xm {t : TypeId} {x : Operand} : xz P W0 (.box t x) e h K .mk = nz (Dr (C0 e x .mk)) (sz? P t) h K .mk := by
 simp only [xz, H9, B6, C3, andThen, nz, C0]; cases Dr (e.op x) <;> cases sz? P t <;> simp [Sw]
theorem SL {t : TypeId} {x : Operand} : xz P W0 (.load t x) e h K .mk = bz (FL P h t (C0 e x .mk) .mk) h K .mk := by
 simp only [xz, H9, B6, C3, bz, FL, C0]; cases Gs P h t (e.op x) <;> rfl
theorem YZ {op : BinOp} {t u : TypeId} {x y : Operand} : xz P W0 (.binOp op t x y u) e h K .mk = bz (binV P op t (C0 e x .mk) (C0 e y .mk)) h K .mk := by
 simp only [xz, H9, B6, C3, bz, C0]; cases binV P op t (e.op x) (e.op y) <;> rfl
theorem cX {op : UnOp} {t : TypeId} {x : Operand} : xz P W0 (.unOp op t x) e h K .mk = bz (unV op (C0 e x .mk)) h K .mk := by
 simp only [xz, H9, B6, C3, bz, C0]; cases unV op (e.op x) <;> rfl
theorem HI {t : TypeId} {x y : Operand} : xz P W0 (.indexAddr t x y) e h K .mk = bz (indexAddrV P t (C0 e x .mk) (C0 e y .mk)) h K .mk := by
 simp only [xz, H9, B6, C3, bz, C0]; cases indexAddrV P t (e.op x) (e.op y) <;> rfl
def I8 (p : Option (Nat × Nat)) (vs : Option (List Value)) (cs : List Value) : Option (List Value) := match p, vs with | some (off, n), some vs => if vs.length = n then Qw cs off vs else none | _, _ => none
def Ev (place : Nat → Option (Nat × Nat)) (e : Env) (l : List (Nat × Operand)) (cs : Option (List Value)) (_ : Ar (place, e, l)) : Option (List Value) := match cs with | some cs => Aw place e l cs | none => none
theorem J5 {p : Nat → Option (Nat × Nat)} {cs : List Value} : Ev p e [] (some cs) .mk = some cs := rfl
theorem Ib {p : Nat → Option (Nat × Nat)} {i : Nat} {x : Operand} {l : List (Nat × Operand)} {cs : List Value} : Ev p e ((i, x) :: l) (some cs) .mk = Ev p e l (I8 (p i) (Dr (C0 e x .mk)) cs) .mk := by
 simp only [Ev, Aw, I8, C0]
 cases p i with
 | none => rfl
 | some q =>
  obtain ⟨off, n⟩ := q
  cases Dr (e.op x) with
  | none => rfl
  | some vs =>
   by_cases hv : vs.length = n
   ·simp only [if_pos hv]; cases Qw cs off vs <;> rfl
   ·simp only [if_neg hv]
def Im (z : Nat) : Nat → Option (Nat × Nat) := fun i => some (i * z, z)
theorem Ji {z i : Nat} : Im z i = some (i * z, z) := rfl
def Yt (o : Option (TypeId × Nat × Nat)) : Nat := match o with | some (e, _, _) => e | none => 0
def bk (o : Option (TypeId × Nat × Nat)) : Nat := match o with | some (_, z, _) => z | none => 0
theorem Yq {e z b : Nat} : Yt (some (e, z, b)) = e := rfl
theorem Xy {e z b : Nat} : bk (some (e, z, b)) = z := rfl
def Np (o : Option (TypeId × Nat × Nat)) (zs : Option (List Value)) (n : Nat) : Bool := match o, zs with
 | some (_, z, _), some zs => decide (n ≤ 64) && (decide (zs.length = z) && decide (z ≤ 64))
 | _, _ => false
theorem SC {u z b n : Nat} {zs : List Value} : Np (some (u, z, b)) (some zs) n = (decide (n ≤ 64) && (decide (zs.length = z) && decide (z ≤ 64))) := rfl
def Vn (n : Nat) (o : Option (List Value)) : Option (List Value) := match o with | some z => some (repL n z) | none => none
theorem UD {n : Nat} {z : List Value} : Vn n (some z) = some (repL n z) := rfl
theorem fI {z : List Value} : repL 0 z = [] := rfl
theorem Yd {n : Nat} {z : List Value} : repL (n + 1) z = z ++ repL n z := by simp [repL, List.replicate_succ]
theorem Xc {t n : Nat} {ps : List (Nat × Operand)} (hn : Np (elt? P t) (zr? P (Yt (elt? P t))) n = true) :
  xz P W0 (.buildSlice t n ps.toArray) e h K .mk = bh (Ev (Im (bk (elt? P t))) e ps (Vn n (zr? P (Yt (elt? P t)))) .mk) (bk (elt? P t)) n h K .mk := by
 cases he : elt? P t with
 | none => rw [he] at hn; cases hn
 | some q =>
  obtain ⟨u, z, y⟩ := q
  rw [he] at hn
  simp only [Yt] at hn
  cases hz : zr? P u with
  | none => rw [hz] at hn; cases hn
  | some zs =>
   rw [hz] at hn
   simp only [Np, Bool.and_eq_true, decide_eq_true_eq] at hn
   simp only [xz, H9, B6, C3, bh, he, hz, if_pos hn, Ev, bk, Yt, Vn, show Im z = (fun i => some (i * z, z)) from rfl]
   generalize Aw (fun i => some (i * z, z)) e ps (repL n zs) = r
   cases r <;> rfl
theorem TC {f : FuncId} {xs : List Operand} {ts : Array TypeId} : xz P W0 (.call ⟨.value (.func f), xs.toArray, ts⟩) e h K .mk = wz P W0 f (Ce e xs .mk) h K .mk := by
 simp [xz, H9, B6, Env.op, wz, Ce]
theorem XQ {g : FuncId} {xs : List Value} {caps : List Value} : Zc P W0 (.func (.func g) #[] caps.toArray) xs h K .mk = wz P W0 g (xs ++ caps) h K .mk := by simp [Zc, wz]
theorem XX {t : Tmp} {xs : List Operand} {ts : Array TypeId} : xz P W0 (.call ⟨.value (.tmp t), xs.toArray, ts⟩) e h K .mk = Zc P W0 (look e t .mk) (Ce e xs .mk) h K .mk := by
 have hno : C3 P e h (.call ⟨.value (.tmp t), xs.toArray, ts⟩) = none := rfl
 simp only [xz, H9, B6, Zc, hno, andThen, look, Ce, Env.op]
 generalize e t = v
 cases v <;> try rfl
 rename_i fn first caps
 cases fn <;> try rfl
 by_cases h3 : first.size = 0 <;> simp [h3]
def EL (P : Program) (h : Heap) (b : Builtin) (ts : List TypeId) (xs : List Value) (_ : Ar h) : Option (Value × Heap) := BY P h b ts xs
theorem KH {b : Builtin} {xs : List Operand} {ts : List TypeId} : xz P W0 (.call ⟨.builtin b, xs.toArray, ts.toArray⟩) e h K .mk = az (EL P h b ts (Ce e xs .mk) .mk) K .mk := by
 simp [xz, H9, B6, C3, EL, Ce, az]
def iL (b : Bool) (f : FuncId) (l : List Value) : Option Value := match b with | true => some (.func (.func f) #[] l.toArray) | false => none
def gx (f : FuncId) (l : List Value) : Option Value := iL (l.all ptrV) f l
theorem cP {f : FuncId} {a b : Addr} : gx f [.pointer (some a), .pointer (some b)] = some (.func (.func f) #[] [.pointer (some a), .pointer (some b)].toArray) := rfl
theorem cE {f : FuncId} {xs : List Operand} : xz P W0 (.makeFunc (.func f) #[] xs.toArray) e h K .mk = bz (gx f (Ce e xs .mk)) h K .mk := by
 have hl : Ce e xs .mk = xs.map e.op := rfl
 have hm : xs.toArray.map e.op = (xs.map e.op).toArray := by simp
 simp only [xz, H9, B6, C3, gx, hl, hm]
 by_cases hp : (xs.all fun x => ptrV (e.op x)) = true
 ·have h2 : ((xs.map e.op).all ptrV) = true := by simpa using hp
  rw [if_pos ⟨rfl, hp⟩, h2]; rfl
 ·have h2 : ((xs.map e.op).all ptrV) = false := by simpa using hp
  rw [if_neg (fun hh => hp hh.2), h2]; rfl
def iF (o : Option (List Value)) : Option Value := match o with | some l => some (.agg l.toArray) | none => none
def bn (g : Option Bool) (n : Option Nat) (k : Option Kc) (off : Nat) : Option Value := match k with
 | some k => (match g with | some true => (match n with | some n => iF (rd k.cs off n) | none => none) | some false => k.cs[off]? | none => none)
 | none => none
theorem St {n : Option Nat} {w : Bool} {z off : Nat} {cs : List Value} : bn (some false) n (some ⟨w, z, cs⟩) off = cs[off]? := rfl
theorem Me {t : TypeId} {b off : Nat} {p : Option Nat} : FL P h t (.pointer (some ⟨b, off, p⟩)) .mk = bn (agg? P t) (sz? P t) (hg h b .mk) off := by
 simp only [FL, Gs, hg, bn, iF]
 cases h.get b with
 | none => rfl
 | some k =>
  simp only
  cases agg? P t with
  | none => rfl
  | some g =>
   cases g with
   | false => rfl
   | true =>
    simp only
    cases sz? P t with
    | none => rfl
    | some n => simp only; cases rd k.cs off n <;> rfl
theorem J4 {k : IntKind} {n : Int} : Dr (.int k n) = some [.int k n] := rfl
theorem fJ {t : TypeId} {k : IntKind} {x y : Int} : binV P .add t (.int k x) (.int k y) = some (.int k (k.wrap (x + y))) := (if_pos rfl : binV P .add t (.int k x) (.int k y) = GM .add k x y).trans (rfl)
theorem fB {t : TypeId} {k : IntKind} {x y : Int} : binV P .sub t (.int k x) (.int k y) = some (.int k (k.wrap (x - y))) := (if_pos rfl : binV P .sub t (.int k x) (.int k y) = GM .sub k x y).trans (rfl)
theorem fO {t : TypeId} {k : IntKind} {x y : Int} : binV P .mul t (.int k x) (.int k y) = some (.int k (k.wrap (x * y))) := (if_pos rfl : binV P .mul t (.int k x) (.int k y) = GM .mul k x y).trans (rfl)
theorem fX {t : TypeId} {k : IntKind} {x y : Int} : binV P .xor t (.int k x) (.int k y) = some (.int k (Go.bits .xor k x y)) := (if_pos rfl : binV P .xor t (.int k x) (.int k y) = GM .xor k x y).trans (rfl)
theorem eZ {t : TypeId} {k : IntKind} {x y : Int} : binV P .eql t (.int k x) (.int k y) = some (.bool (decide (x = y))) := (if_pos rfl : binV P .eql t (.int k x) (.int k y) = GM .eql k x y).trans (by simp [GM, Bool.beq_eq_decide_eq])
theorem fi {t : TypeId} {k : IntKind} {x y : Int} : binV P .neq t (.int k x) (.int k y) = some (.bool (decide (x ≠ y))) := (if_pos rfl : binV P .neq t (.int k x) (.int k y) = GM .neq k x y).trans (by simp only [GM]; congr 2; by_cases hxy : x = y <;> simp [hxy])
theorem fK {t : TypeId} {k : IntKind} {x y : Int} : binV P .lss t (.int k x) (.int k y) = some (.bool (decide (x < y))) := (if_pos rfl : binV P .lss t (.int k x) (.int k y) = GM .lss k x y).trans (rfl)
theorem fU {t : TypeId} {k : IntKind} {x y : Int} : binV P .leq t (.int k x) (.int k y) = some (.bool (decide (x ≤ y))) := (if_pos rfl : binV P .leq t (.int k x) (.int k y) = GM .leq k x y).trans (rfl)
theorem gA {t : TypeId} {k : IntKind} {x y : Int} : binV P .gtr t (.int k x) (.int k y) = some (.bool (decide (y < x))) := (if_pos rfl : binV P .gtr t (.int k x) (.int k y) = GM .gtr k x y).trans (rfl)
theorem eh {t : TypeId} {k : IntKind} {x y : Int} : binV P .geq t (.int k x) (.int k y) = some (.bool (decide (y ≤ x))) := (if_pos rfl : binV P .geq t (.int k x) (.int k y) = GM .geq k x y).trans (rfl)
theorem fY {t : TypeId} {k : IntKind} {x y : Int} (h0 : (y == 0) = false) : binV P .quo t (.int k x) (.int k y) = some (.int k (k.wrap (x.tdiv y))) := (if_pos rfl : binV P .quo t (.int k x) (.int k y) = GM .quo k x y).trans (by simp_all [GM])
theorem gB {t : TypeId} {k : IntKind} {x y : Int} (h0 : (y == 0) = false) : binV P .rem t (.int k x) (.int k y) = some (.int k (x.tmod y)) := (if_pos rfl : binV P .rem t (.int k x) (.int k y) = GM .rem k x y).trans (by simp_all [GM])
theorem aY {t : TypeId} {k k' : IntKind} {x y : Int} : binV P .shl t (.int k x) (.int k' y) = GO .shl k x y := rfl
theorem aH {t : TypeId} {k k' : IntKind} {x y : Int} : binV P .shr t (.int k x) (.int k' y) = GO .shr k x y := rfl
theorem bE {op : BinOp} {t : TypeId} {x y : ByteArray} : binV P op t (.string x) (.string y) = VJ op x y := rfl
theorem dJ {k : IntKind} {n : Int} : unV .neg (.int k n) = some (.int k (k.wrap (0 - n))) := rfl
theorem eD {b : Bool} : unV .not (.bool b) = some (.bool !b) := rfl
theorem EA {b : Bool} {A B : Prop} (ha : b = true → A) (hb : b = false → B) : gz b A B .mk := ⟨ha, hb⟩
theorem AN {p : Prop} [Decidable p] {A B : Prop} (ha : p → A) (hb : ¬ p → B) : gz (decide p) A B .mk := ⟨fun h => ha (of_decide_eq_true h), fun h => hb (of_decide_eq_false h)⟩
theorem Da {b : Code} (I : Nat → Env → Heap → Prop) (n : Nat) (h0 : I n e h) (hr : ∀ n e h, I n e h → cz P W0 D b e h (NW I n Q) .mk) : lz P W0 D b e h Q .mk := ⟨I, n, h0, hr⟩
theorem AA {f : FuncId} {a : List Value} {K0 : KT} (c : WC P W0 f a h K0) (hk : ∀ v h', K0 v h' → kz K v h' .mk) : wz P W0 f a h K .mk := c.mono hk
theorem Wz {okD : List Oper → Bool} {f : FuncId} {fn : Func} {c : Code} (hD : LC P W0 fn.ntmps D.d okD) (hf : P.funcs[f]? = some fn) (hb : fn.body = some c)
    (hn : (fn.name != "runtime.NumGoroutine") = true) (hok : Bd fn.ntmps okD c = true) {rs : List ResultVar} (hrs : fn.results.toList = rs) {args : List Value} {nt : Nat} (hnt : fn.ntmps = nt) (hlen : args.length ≤ nt)
    (hv : cz P W0 D c (DD args) h (ends P rs K) .mk) : WC P W0 f args h K := LX hD hf hb hn hok (by rw [hnt]; exact hlen) (by rw [hrs]; exact hv)
attribute [go_sem] cu dw Wd E9 HB KB YA WX Rf Lr Ju IT Ap AB Q3 X2 RY Wo O3 CV Sn Lz Jq Wr W3 O1 Mn OG MR cD cU SZ S3 PE RN SJ SM Lc MQ LK PO PV OU Sp Rw IP SD gi Sc SF Rx N7 Wa S1 PK Lt LM gD fV Oy Mh de dq R1 MM R6 Qy R0 fm fe RQ Xm SL YZ cX HI J5 Ib Ji Yq Xy SC UD fI Yd Xc List.cons_append List.nil_append List.append_nil TC XQ XX KH cP cE St Me J4 aY aH bE fJ fB fO fY gB fX eZ fi fK fU gA eh dJ eD
end Go.Ai
namespace Go.Ai
variable {P : Program} {W0 : World} {D : ID} {e : Env} {h : Heap} {Q : QT} {K : KT}
def eltT (o : Option (TypeId × Nat × Nat)) : Nat := match o with | some (e, _, _) => e | none => 0
def eltZ (o : Option (TypeId × Nat × Nat)) : Nat := match o with | some (_, z, _) => z | none => 0
theorem VO {e z b : Nat} : eltT (some (e, z, b)) = e := rfl
theorem VI {e z b : Nat} : eltZ (some (e, z, b)) = z := rfl
def G3 (v : Value) (l : Option (List Value)) : Option (List Value) := match l with | some l => some (v :: l) | none => none
theorem Ij {v : Value} {l : List Value} : G3 v (some l) = some (v :: l) := rfl
theorem Ge {cs : List Value} {n : Nat} (hn : cs.length = n) : rd cs 0 n = some cs := by subst hn; simp [rd]
theorem PD {cs : List Value} : Qw cs 0 [] = some cs := by simp [Qw]
theorem O7 {c v : Value} {cs vs : List Value} : Qw (c :: cs) 0 (v :: vs) = G3 v (Qw cs 0 vs) := by
 simp only [Qw, G3, List.length_cons, Nat.zero_add, List.take_zero, List.nil_append, List.drop_succ_cons, List.cons_append]
 by_cases hn : vs.length ≤ cs.length
 ·rw [if_pos (by omega), if_pos hn]
 ·rw [if_neg (by omega), if_neg hn]
theorem KI {off n : Nat} {vs cs : List Value} (hn : (vs.length == n) = true) : I8 (some (off, n)) (some vs) cs = Qw cs off vs := by
 simp only [I8]; rw [if_pos (by simpa using hn)]
theorem Z5 {o n : Nat} {b : Bool} : (Option.map (fun p : Nat × Nat × Bool => (p.1, p.2.1)) (some (o, n, b))) = some (o, n) := rfl
def Pv (o : Option (Nat × Nat × Bool)) : Nat := match o with | some (o, _, _) => o | none => 0
theorem Vc {o n : Nat} {b : Bool} : Pv (some (o, n, b)) = o := rfl
def V6 (o : Option (Nat × Nat × Bool)) : Nat := match o with | some (_, n, _) => n | none => 0
theorem Vj {o n : Nat} {b : Bool} : V6 (some (o, n, b)) = n := rfl
def U8 : Nat → Bool
 | 0 => false
 | _ + 1 => true
theorem cA {n : Nat} : U8 (n + 1) = true := rfl
theorem cB {s b off f : Nat} {p : Option Nat} (hn : U8 (V6 (fld? P s f)) = true) : fieldAddrV P s (.pointer (some ⟨b, off, p⟩)) f = some (.pointer (some ⟨b, off + Pv (fld? P s f), none⟩)) := by
 unfold fieldAddrV
 cases hf : fld? P s f with
 | none => rw [hf] at hn; simp [V6, U8] at hn
 | some q =>
  obtain ⟨o, n, g⟩ := q
  rw [hf] at hn
  simp only [V6] at hn
  match n, hn with
  | n + 1, _ => rfl
  | 0, hn => simp [U8] at hn
theorem gE {t b off n c : Nat} {p : Option Nat} {k : IntKind} {i : Int} (h1 : (elt? P t).isSome = true) (h2 : 0 ≤ i ∧ i < n) :
  indexAddrV P t (.slice (some ⟨b, off, p⟩) n c) (.int k i) = some (.pointer (some ⟨b, off + i.toNat * eltZ (elt? P t), none⟩)) := by
 unfold indexAddrV
 cases he : elt? P t with
 | none => rw [he] at h1; simp at h1
 | some q => obtain ⟨u, z, y⟩ := q; simp only [if_pos h2, eltZ]
theorem Se {t : TypeId} {a : Option Addr} {n c : Nat} (hc : cls? P t = some .sl) : EL P h .len [t] [.slice a n c] .mk = some (.int .i64 n, h) := by
 simp only [EL, BY, hc]
theorem Si {ts : List TypeId} {k : IntKind} {x y : Int} : EL P h .max ts [.int k x, .int k y] .mk = some (.int k (mxI x y), h) := by simp [EL, BY, Br]
def bD (o : Option Cls) : IntKind := match o with | some (.int k) => k | _ => .i64
theorem W9 {k : IntKind} : bD (some (.int k)) = k := rfl
def bX (o : Option Cls) : Bool := match o with | some (.int _) => true | _ => false
theorem ZV {k : IntKind} : bX (some (.int k)) = true := rfl
def shrI (k : IntKind) (x y : Int) : Int := x.fdiv (2 ^ (min y.toNat k.bits))
def shlI (k : IntKind) (x y : Int) : Int := k.wrap (x * 2 ^ (min y.toNat k.bits))
theorem hU {k : IntKind} {x y : Int} (hy : 0 ≤ y) : GO .shr k x y = some (.int k (shrI k x y)) := by simp [GO, shrI, Int.not_lt.2 hy]
theorem gv {k : IntKind} {x y : Int} (hy : 0 ≤ y) : GO .shl k x y = some (.int k (shlI k x y)) := by simp [GO, shlI, Int.not_lt.2 hy]
theorem gP {x y : ByteArray} : VJ .neq x y = some (.bool (!(x.toList == y.toList))) := rfl
theorem fC {x y : ByteArray} (hs : ((x.size + y.size : Nat) : Int) ≤ 9223372036854775807) : VJ .add x y = some (.string (x ++ y)) := if_neg (by omega)
theorem fD {t : TypeId} {x y : Bool} (hc : cls? P t = some .bool) : binV P .neq t (.bool x) (.bool y) = some (.bool (!(x == y))) := by simp [binV, eqV, hc]
theorem bT {n : Nat} : (n == n) = true := by simp
attribute [go_sem] cA VO VI Ij PD O7 KI Z5 Vc Vj cB gE Se Si W9 ZV hU gv gP fC fD bT Option.isSome_some List.getElem?_cons_zero List.getElem?_cons_succ List.length_cons List.length_nil Bool.and_true Bool.true_and Bool.and_self
end Go.Ai
namespace Go.Ai
variable {P : Program} {W0 : World}
def EM (l : List Oper) (i : Nat) : List Nat := match l[i]? with
 | some o => (o.after.toList.filter (Region.binds .any)).map (·.on)
 | none => []
def tmpsOf : List Operand → List Nat
 | [] => []
 | .tmp t :: r => t :: tmpsOf r
 | _ :: r => tmpsOf r
def KF (l : List Oper) : Option (Nat × Bool) → List Nat
 | none => []
 | some (j, _) => match Ba l j with | some d => [d] | none => []
def Xz (l : List Oper) (o : Oper) : List Nat := tmpsOf o.op.operands.toList ++ KF l o.guard
def looks (l : List Oper) (i : Nat) : List Nat := match l[i]? with | some o => Xz l o | none => []
theorem Su {t : Nat} : ∀ {l : List Operand}, Operand.tmp t ∈ l → t ∈ tmpsOf l := by
 intro l
 induction l with
 | nil => intro h; cases h
 | cons x r ih =>
  intro h
  rcases List.mem_cons.1 h with h2 | h2
  ·subst h2; simp [tmpsOf]
  ·have := ih h2
   cases x <;> simp [tmpsOf, this]
theorem Wg {e e' : Env} {l : List Operand} (h : ∀ t ∈ tmpsOf l, e t = e' t) {x : Operand} (hx : x ∈ l) : e.op x = e'.op x := by
 cases x with
 | tmp t => exact h t (Su hx)
 | _ => rfl
theorem guard_congr {e e' : Env} {ops : List Oper} {g : Option (Nat × Bool)} (h : ∀ t ∈ KF ops g, e t = e' t) : guardOf ops e g = guardOf ops e' g := by
 cases g with
 | none => rfl
 | some q =>
  obtain ⟨j, w⟩ := q
  simp only [guardOf, KF] at h ⊢
  cases hd : Ba ops j with
  | none => rfl
  | some d => rw [hd] at h; simp only; rw [h d (by simp)]
theorem G5 {place : Nat → Option (Nat × Nat)} {e e' : Env} : ∀ {l : List (Nat × Operand)} {cs : List Value}, (∀ p ∈ l, e.op p.2 = e'.op p.2) → Aw place e l cs = Aw place e' l cs
 | [], _, _ => rfl
 | (i, x) :: r, cs, h => by
  simp only [Aw]
  rw [show e.op x = e'.op x from h (i, x) (by simp)]
  split
  ·split
   ·split
    ·exact G5 fun p hp => h p (by simp [hp])
    ·rfl
   ·rfl
  ·rfl
theorem Iz {e e' : Env} {xs : List Operand} (h : ∀ x ∈ xs, e.op x = e'.op x) : xs.map e.op = xs.map e'.op := List.map_congr_left h
theorem Gh {e e' : Env} {o : Option Operand} (h : ∀ x, o = some x → e.op x = e'.op x) : o.map e.op = o.map e'.op := by
 cases o with
 | none => rfl
 | some x => simp [h x rfl]
theorem Fi {e e' : Env} {h : Heap} (o : Op) (hx : ∀ x ∈ o.operands.toList, e.op x = e'.op x) : C3 P e h o = C3 P e' h o := by
 cases o <;> (try rfl) <;> simp only [Op.operands] at hx
 case move x => simp only [C3]; rw [hx x (by simp)]
 case assign x => simp only [C3]; rw [hx x (by simp)]
 case pick c a b => simp only [C3]; rw [hx c (by simp), hx a (by simp), hx b (by simp)]
 case box t x => simp only [C3]; rw [hx x (by simp)]
 case build t ps => simp only [C3]; cases zr? P t with
  | none => rfl
  | some z => simp only; rw [G5 fun p hp => hx p.2 (by simp; exact ⟨p.1, by simpa using hp⟩)]
 case buildSlice t n ps =>
  simp only [C3]
  cases elt? P t with
  | none => rfl
  | some q =>
   obtain ⟨u, z, y⟩ := q
   simp only
   cases zr? P u with
   | none => rfl
   | some zs => simp only; rw [G5 fun p hp => hx p.2 (by simp; exact ⟨p.1, by simpa using hp⟩)]
 case load t x => simp only [C3]; rw [hx x (by simp)]
 case store t x y => simp only [C3]; rw [hx x (by simp), hx y (by simp)]
 case nilCheck x => simp only [C3]; rw [hx x (by simp)]
 case binOp op t x y u => simp only [C3]; rw [hx x (by simp), hx y (by simp)]
 case unOp op t x => simp only [C3]; rw [hx x (by simp)]
 case convert s d x => simp only [C3]; rw [hx x (by simp)]
 case makeFunc fn first caps =>
  cases fn <;> (try rfl)
  simp only [C3]
  have h1 : (caps.toList.all fun x => ptrV (e.op x)) = (caps.toList.all fun x => ptrV (e'.op x)) := by
   rw [Bool.eq_iff_iff, List.all_eq_true, List.all_eq_true]
   exact ⟨fun hh x hxx => by rw [← hx x (by simp; right; simpa using hxx)]; exact hh x hxx, fun hh x hxx => by rw [hx x (by simp; right; simpa using hxx)]; exact hh x hxx⟩
  rw [h1, Array.map_congr_left (xs := caps) fun x hxx => hx x (by simp; right; simpa using hxx)]
 case makeSlice t x y => simp only [C3]; rw [hx x (by simp), hx y (by simp)]
 case slice t x lo hi mx =>
  simp only [C3]
  rw [hx x (by simp), Gh (o := lo) fun y hy => hx y (by simp [hy]), Gh (o := hi) fun y hy => hx y (by simp [hy]), Gh (o := mx) fun y hy => hx y (by simp [hy])]
 case fieldAddr s x f => simp only [C3]; rw [hx x (by simp)]
 case field s x f => simp only [C3]; rw [hx x (by simp)]
 case indexAddr t x ix => simp only [C3]; rw [hx x (by simp), hx ix (by simp)]
 case index t x ix => simp only [C3]; rw [hx x (by simp), hx ix (by simp)]
 case extract x i => simp only [C3]; rw [hx x (by simp)]
 case call c =>
  obtain ⟨callee, xs, ts⟩ := c
  cases callee <;> (try rfl)
  simp only [C3]
  rw [Iz fun x hxx => hx x (by simp [Call.operands]; simpa using hxx)]
theorem OR {e e' : Env} (o : Op) (hx : ∀ x ∈ o.operands.toList, e.op x = e'.op x) : B6 e o = B6 e' o := by
 cases o <;> (try rfl)
 case call c =>
  obtain ⟨callee, xs, ts⟩ := c
  cases callee <;> (try rfl)
  rename_i f
  simp only [B6]
  rw [hx f (by simp [Op.operands, Call.operands]), Iz fun x hxx => hx x (by simp [Op.operands, Call.operands]; right; simpa using hxx)]
theorem Nv {e e' : Env} {h : Heap} {K : Value → Heap → Prop} (o : Op) (hx : ∀ x ∈ o.operands.toList, e.op x = e'.op x) : H9 P W0 e h o K = H9 P W0 e' h o K := by
 unfold H9; rw [OR o hx, Fi o hx]
def CI (P : Program) : Op → Bool
 | .move _ | .assign _ | .pick _ _ _ | .load _ _ | .nilCheck _ | .binOp .. | .unOp .. | .fieldAddr .. | .field .. | .indexAddr .. | .index .. | .extract .. | .slice .. | .build .. | .makeFunc .. => true
 | .convert s d _ => match cls? P s, cls? P d with | some .str, some .sl => false | _, _ => true
 | .call ⟨.builtin .len, _, _⟩ | .call ⟨.builtin .cap, _, _⟩ | .call ⟨.builtin .max, _, _⟩ | .call ⟨.builtin .min, _, _⟩ => true
 | _ => false
def Lp (P : Program) : Op → Bool
 | .load _ _ | .slice .. => false
 | .convert s d _ => match cls? P s, cls? P d with | some .sl, _ => false | _, _ => true
 | _ => true
theorem GW {e : Env} {o : Op} (hq : CI P o = true) : B6 e o = none := by
 cases o <;> (try rfl) <;> (try (simp [CI] at hq; done))
 case call c => obtain ⟨callee, xs, ts⟩ := c; cases callee <;> first | rfl | (simp [CI] at hq; done)
theorem BZ {o : Option Value} {h h' : Heap} {v : Value} (hh : o.map (·, h) = some (v, h')) : h' = h ∧ ∀ h2 : Heap, o.map (·, h2) = some (v, h2) := by
 cases o with
 | none => cases hh
 | some x => simp at hh; obtain ⟨rfl, rfl⟩ := hh; exact ⟨rfl, fun _ => rfl⟩
theorem SY {s d : TypeId} {x : Value} {h h' : Heap} {v : Value} (hq : CI P (.convert s d (.const x)) = true) (hv : HP P h s d x = some (v, h')) :
  h' = h ∧ (Lp P (.convert s d (.const x)) = true → ∀ h2, HP P h2 s d x = some (v, h2)) := by
 simp only [CI] at hq
 simp only [Lp]
 unfold HP at hv ⊢
 cases hs : cls? P s <;> cases hd : cls? P d <;> simp only [hs, hd] at hv hq ⊢ <;> (try (cases hv; done))
 rename_i c c'
 cases c <;> cases c' <;> cases x <;> simp only at hv hq ⊢ <;> (try (cases hv; done)) <;> (try (simp at hq; done)) <;> (try (simp at hv; obtain ⟨rfl, rfl⟩ := hv; simp; done))
 all_goals
  split at hv
  ·split at hv
   ·cases hv; simp
   ·cases hv
  ·cases hv
theorem M2 {b : Builtin} {ts : List TypeId} {xs : List Value} {h h' : Heap} {v : Value} (hb : b = .len ∨ b = .cap ∨ b = .max ∨ b = .min) (hv : BY P h b ts xs = some (v, h')) :
    h' = h ∧ ∀ h2, BY P h2 b ts xs = some (v, h2) := by
  rcases hb with rfl | rfl | rfl | rfl <;> unfold BY at hv ⊢
  · split at hv
    all_goals first
      | (exfalso; simp_all; done)
      | (split at hv
         · rename_i hc; cases hv; exact ⟨rfl, fun h2 => by simp only []⟩
         · cases hv)
  · split at hv
    all_goals first
      | (exfalso; simp_all; done)
      | (split at hv
         · rename_i hc; cases hv; exact ⟨rfl, fun h2 => by simp only []⟩
         · cases hv)
  · exact BZ hv
  · exact BZ hv
theorem Ey {e : Env} {o : Op} {h h' : Heap} {v : Value} (hq : CI P o = true) (hv : C3 P e h o = some (v, h')) :
  h' = h ∧ (Lp P o = true → ∀ h2, C3 P e h2 o = some (v, h2)) := by
 cases o <;> (try (simp [CI] at hq; done)) <;> simp only [C3] at hv ⊢
 case move x => cases hv; exact ⟨rfl, fun _ _ => rfl⟩
 case assign x => cases hv; exact ⟨rfl, fun _ _ => rfl⟩
 case pick c a b => split at hv <;> simp_all
 case build t ps =>
  split at hv
  ·split at hv
   ·rename_i hb; simp only [if_pos hb]
    generalize Aw (fun i => (fld? P t i).map fun p => (p.1, p.2.1)) e ps.toList _ = r at hv
    cases r with
    | none => cases hv
    | some l => simp at hv; obtain ⟨rfl, rfl⟩ := hv; exact ⟨rfl, fun _ _ => rfl⟩
   ·cases hv
  ·cases hv
 case load t x => exact ⟨(BZ hv).1, fun hp => by simp [Lp] at hp⟩
 case nilCheck x => split at hv <;> simp_all
 case binOp op t x y u => exact ⟨(BZ hv).1, fun _ => (BZ hv).2⟩
 case unOp op t x => exact ⟨(BZ hv).1, fun _ => (BZ hv).2⟩
 case convert s d x => exact SY (x := e.op x) hq hv
 case makeFunc fn first caps =>
  cases fn <;> simp only [] at hv ⊢ <;> (try (cases hv; done))
  split at hv <;> simp_all
 case slice t x lo hi mx => exact ⟨(BZ hv).1, fun hp => by simp [Lp] at hp⟩
 case fieldAddr s x f => exact ⟨(BZ hv).1, fun _ => (BZ hv).2⟩
 case field s x f => exact ⟨(BZ hv).1, fun _ => (BZ hv).2⟩
 case indexAddr t x ix => exact ⟨(BZ hv).1, fun _ => (BZ hv).2⟩
 case index t x ix => exact ⟨(BZ hv).1, fun _ => (BZ hv).2⟩
 case extract x i => exact ⟨(BZ hv).1, fun _ => (BZ hv).2⟩
 case call c =>
  obtain ⟨callee, xs, ts⟩ := c
  cases callee <;> (try (simp [CI] at hq; done))
  rename_i b
  have hb : b = .len ∨ b = .cap ∨ b = .max ∨ b = .min := by cases b <;> simp_all [CI]
  obtain ⟨h1, h2⟩ := M2 hb hv
  exact ⟨h1, fun _ => h2⟩
end Go.Ai
namespace Go.Ai
variable {P : Program} {W0 : World}
def effO (P : Program) (l : List Oper) (i : Nat) : Bool := match l[i]? with | some o => !quietO P o.op | none => true
def Je (P : Program) (l : List Oper) (i : Nat) : Bool := match l[i]? with | some o => !pureO P o.op | none => false
def stays (P : Program) (l : List Oper) (q : Nat) (e : Env) (h : Heap) : Prop := match l[q]? with
 | none => True
 | some o => match guardOf l e o.guard with
  | some true => (match o.dst with | some d => C3 P e h o.op = some (e d, h) | none => False)
  | some false => True
  | none => False
def Jf (P : Program) (W0 : World) (l : List Oper) : List (Nat × List Nat) → Env → Heap → QT → Prop
 | [], e, h, Q => Q .normal e h
 | (i, pd) :: r, e, h, Q => match l[i]? with
  | none => False
  | some o => guarded (guardOf l e o.guard) (H9 P W0 e h o.op fun v h' => (∀ q ∈ pd, stays P l q (e.putO o.dst v) h') ∧ Jf P W0 l r (e.putO o.dst v) h' Q) (Jf P W0 l r (e.putO o.dst undef) h Q)
def descOk (l : List Oper) : List Nat → List (Nat × List Nat) → Bool
 | _, [] => true
 | D, (k, _) :: r => (EM l k).any (fun j => D.contains j) && descOk l (k :: D) r
def Q6 (l : List Oper) : List Nat → List Nat → List Nat
 | [], A => A
 | q :: r, A => Q6 l r (if A.contains q then A ++ EM l q else A)
def chk (P : Program) (l : List Oper) : List Nat → List (Nat × List Nat) → Bool
  | _, [] => true
  | pre, (i, pd) :: r => !(pre.contains i) && (decide (i < l.length) && ((EM l i).all (fun j => pre.contains j) && ((!effO P l i || (descOk l [i] r &&
      (pre.all (fun q => !staleO P l q || (pd.contains q || (Q6 l pre (EM l i)).contains q)) &&
       pd.all (fun q => (looks l q).all fun t => (i :: pre).all fun j => Ba l j != some t || (EM l q).contains j)))) && chk P l (i :: pre) r)))
def I4 (l : List Oper) : Bool := (List.range l.length).all fun j => match Ba l j with
 | none => true
 | some t => (List.range l.length).all fun i => (i == j || Ba l i != some t) && (!(looks l i).contains t || ((EM l i).contains j || (EM l j).contains i))
def IX (P : Program) (l : List Oper) (p : List (Nat × List Nat)) : Bool := I4 l && ((List.range l.length).all (fun i => (p.map (·.1)).contains i) && chk P l [] p)
theorem Lk {l : List Oper} {j d : Nat} (h : Ba l j = some d) : j < l.length := by
 rw [C8] at h
 cases hx : l[j]? with
 | none => rw [hx] at h; cases h
 | some o => exact (List.getElem?_eq_some_iff.1 hx).1
theorem Xf {l : List Oper} {i t : Nat} (h : t ∈ looks l i) : i < l.length := by
 unfold looks at h
 cases hx : l[i]? with
 | none => rw [hx] at h; cases h
 | some o => exact (List.getElem?_eq_some_iff.1 hx).1
theorem Ly {l : List Oper} (g : I4 l = true) {i j t : Nat} (hi : Ba l i = some t) (hj : Ba l j = some t) : i = j := by
 have := List.all_eq_true.1 g j (by simpa using Lk hj)
 simp only [hj] at this
 have := List.all_eq_true.1 this i (by simpa using Lk hi)
 rw [Bool.and_eq_true] at this
 have := this.1
 simp [hi] at this
 exact this
theorem T1 {l : List Oper} (g : I4 l = true) {i j t : Nat} (hi : t ∈ looks l i) (hj : Ba l j = some t) : j ∈ EM l i ∨ i ∈ EM l j := by
 have := List.all_eq_true.1 g j (by simpa using Lk hj)
 simp only [hj] at this
 have := List.all_eq_true.1 this i (by simpa using Xf hi)
 rw [Bool.and_eq_true] at this
 have := this.2
 simp [hi] at this
 exact this
def T0 (l : List Oper) (X : Nat → Prop) (val : Nat → Value) (e0 e : Env) : Prop :=
 ∀ t, (∀ j, X j → Ba l j = some t → e t = val j) ∧ ((∀ j, X j → Ba l j ≠ some t) → e t = e0 t)
def FM (l : List Oper) (q : Nat) (val : Nat → Value) (e0 e : Env) : Prop :=
 ∀ t ∈ looks l q, (∀ j ∈ EM l q, Ba l j = some t → e t = val j) ∧ ((∀ j ∈ EM l q, Ba l j ≠ some t) → e t = e0 t)
def aL (P : Program) (l : List Oper) (q : Nat) (val : Nat → Value) (e0 : Env) (h : Heap) : Prop :=
 ∀ o, l[q]? = some o → ∀ e, FM l q val e0 e → ∃ g, guardOf l e o.guard = some g ∧ (g = true → C3 P e h o.op = some (val q, h)) ∧ (g = false → val q = undef)
theorem Cp {l : List Oper} (g : I4 l = true) {X : Nat → Prop} {val : Nat → Value} {e0 e : Env} {q : Nat} (c : T0 l X val e0 e) (hb : ∀ j ∈ EM l q, X j) (hn : ∀ j, X j → q ∉ EM l j) : FM l q val e0 e := by
 intro t ht
 refine ⟨fun j hj hd => (c t).1 j (hb j hj) hd, fun hno => (c t).2 fun j hX hd => ?_⟩
 rcases T1 g ht hd with h1 | h1
 ·exact hno j h1 hd
 ·exact hn j hX h1
theorem FZ {l : List Oper} {val : Nat → Value} {e0 e e' : Env} {q : Nat} (a : FM l q val e0 e) (a' : FM l q val e0 e') : ∀ t ∈ looks l q, e t = e' t := by
 intro t ht
 by_cases hj : ∃ j ∈ EM l q, Ba l j = some t
 ·obtain ⟨j, h1, h2⟩ := hj
  rw [(a t ht).1 j h1 h2, (a' t ht).1 j h1 h2]
 ·have hno : ∀ j ∈ EM l q, Ba l j ≠ some t := fun j h1 h2 => hj ⟨j, h1, h2⟩
  rw [(a t ht).2 hno, (a' t ht).2 hno]
theorem Eb {l : List Oper} {val val' : Nat → Value} {e0 e : Env} {q : Nat} (h : ∀ j ∈ EM l q, val' j = val j) (a : FM l q val' e0 e) : FM l q val e0 e := by
 intro t ht
 exact ⟨fun j hj hd => (((a t ht).1 j hj hd).trans (h j hj)), (a t ht).2⟩
theorem XL {l : List Oper} {q : Nat} {o : Oper} (ho : l[q]? = some o) : looks l q = Xz l o := by simp [looks, ho]
theorem GB {l : List Oper} {q : Nat} {o : Oper} (ho : l[q]? = some o) {e e' : Env} (h : ∀ t ∈ looks l q, e t = e' t) :
  guardOf l e o.guard = guardOf l e' o.guard ∧ ∀ x ∈ o.op.operands.toList, e.op x = e'.op x := by
 rw [XL ho] at h
 exact ⟨guard_congr fun t ht => h t (List.mem_append_right _ ht), fun x hx => Wg (fun t ht => h t (List.mem_append_left _ ht)) hx⟩
theorem FF {l : List Oper} (g : I4 l = true) {X : Nat → Prop} {val val' : Nat → Value} {e0 e : Env} {i : Nat} {v : Value} {o : Oper} (ho : l[i]? = some o) (hX : ¬ X i) (c : T0 l X val e0 e)
    (hv : ∀ j, X j → val' j = val j) (hi : val' i = v) : T0 l (fun j => j = i ∨ X j) val' e0 (e.putO o.dst v) := by
  have hdi : Ba l i = o.dst := by rw [C8, ho]; rfl
  intro t
  constructor
  · rintro j (rfl | hj) hd
    · rw [hdi] at hd; rw [hd, hi]; simp [Env.putO, Env.put]
    · have : o.dst ≠ some t := fun hh => by
        have := Ly g hd (hdi.trans hh); subst this; exact hX hj
      have h1 : e.putO o.dst v t = e t := by
        cases hdo : o.dst with
        | none => rfl
        | some d => simp [Env.putO, Env.put]; intro ht; subst ht; exact absurd hdo this
      rw [h1, (c t).1 j hj hd, hv j hj]
  · intro hno
    have : o.dst ≠ some t := fun hh => hno i (.inl rfl) (hdi.trans hh)
    have h1 : e.putO o.dst v t = e t := by
      cases hdo : o.dst with
      | none => rfl
      | some d => simp [Env.putO, Env.put]; intro ht; subst ht; exact absurd hdo this
    rw [h1]
    exact (c t).2 fun j hj => hno j (.inr hj)
theorem Hs {l : List Oper} {X Y : Nat → Prop} {val : Nat → Value} {e0 e : Env} (h : ∀ j, X j ↔ Y j) (c : T0 l X val e0 e) : T0 l Y val e0 e := by
 intro t
 exact ⟨fun j hj => (c t).1 j ((h j).2 hj), fun hno => (c t).2 fun j hj => hno j ((h j).1 hj)⟩
theorem TX {l : List Oper} {X : Nat → Prop} {val val' : Nat → Value} {e0 e : Env} (h : ∀ j, X j → val' j = val j) (c : T0 l X val e0 e) : T0 l X val' e0 e := by
 intro t
 exact ⟨fun j hj hd => ((c t).1 j hj hd).trans (h j hj).symm, (c t).2⟩
theorem W8 {l : List Oper} {X : Nat → Prop} {val : Nat → Value} {e0 e e' : Env} (c : T0 l X val e0 e) (c' : T0 l X val e0 e') : e = e' := by
 funext t
 by_cases hj : ∃ j, X j ∧ Ba l j = some t
 ·obtain ⟨j, h1, h2⟩ := hj; rw [(c t).1 j h1 h2, (c' t).1 j h1 h2]
 ·have hno : ∀ j, X j → Ba l j ≠ some t := fun j h1 h2 => hj ⟨j, h1, h2⟩
  rw [(c t).2 hno, (c' t).2 hno]
structure Inv (P : Program) (W0 : World) (l : List Oper) (nt : Nat) (e0 : Env) (Q : QT) (ι0 : Ren) (S : Nat → Prop) (dn : List Nat) (rest : List (Nat × List Nat)) (val : Nat → Value) (ec es : Env) (h : Heap) (a : Act) (w : World) : Prop where
 closed : ∀ i, S i → ∀ j ∈ EM l i, S j
 sub : ∀ i, S i → i ∈ dn
 effs : ∀ i ∈ dn, effO P l i = true → S i
 topo : ∀ d1 q d2, dn = d1 ++ q :: d2 → ∀ j ∈ EM l q, j ∈ d2
 inb : ∀ i ∈ dn, i < l.length
 full : ∀ i, i < l.length → i ∈ dn ∨ i ∈ rest.map (·.1)
 chk : chk P l dn rest = true
 cur : T0 l (· ∈ dn) val e0 ec
 curS : T0 l S val e0 es
 pend : ∀ q ∈ dn, ¬ S q → aL P l q val e0 h
 run : Jf P W0 l rest ec h Q
 sim : ∃ ι, ι0.le ι ∧ CT P W0 ι h w ∧ RE nt ι es a
section
variable {l : List Oper} {nt : Nat} {e0 : Env} {Q : QT} {ι0 : Ren} {S : Nat → Prop} {dn : List Nat} {rest : List (Nat × List Nat)} {val : Nat → Value} {ec es : Env} {h : Heap} {a : Act} {w : World}
theorem Inv.before (I : Inv P W0 l nt e0 Q ι0 S dn rest val ec es h a w) {q : Nat} (hq : q ∈ dn) : ∀ j ∈ EM l q, j ∈ dn := by
 obtain ⟨d1, d2, rfl⟩ := List.append_of_mem hq
 intro j hj
 have := I.topo d1 q d2 rfl j hj
 simp [this]
theorem Inv.head (I : Inv P W0 l nt e0 Q ι0 S dn rest val ec es h a w) {i : Nat} {pd : List Nat} {r : List (Nat × List Nat)} (hr : rest = (i, pd) :: r) :
  i ∉ dn ∧ i < l.length ∧ (∀ j ∈ EM l i, j ∈ dn) ∧ (effO P l i = true → descOk l [i] r = true ∧
   (∀ q ∈ dn, Je P l q = true → q ∈ pd ∨ q ∈ Q6 l dn (EM l i)) ∧ ∀ q ∈ pd, ∀ t ∈ looks l q, ∀ j, j = i ∨ j ∈ dn → Ba l j = some t → j ∈ EM l q) ∧ Go.Ai.chk P l (i :: dn) r = true := by
 have c := I.chk
 rw [hr] at c
 simp only [Go.Ai.chk, Bool.and_eq_true] at c
 obtain ⟨c1, c2, c3, c4, c5⟩ := c
 refine ⟨by simpa using c1, by simpa using c2, fun j hj => by simpa using List.all_eq_true.1 c3 j hj, fun he => ?_, c5⟩
 rw [he] at c4
 simp only [Bool.not_true, Bool.false_or, Bool.and_eq_true] at c4
 obtain ⟨d1, d2, d3⟩ := c4
 refine ⟨d1, fun q hq hs => ?_, fun q hq t ht j hj hd => ?_⟩
 ·have := List.all_eq_true.1 d2 q hq
  simp [hs] at this
  exact this
 ·have := List.all_eq_true.1 (List.all_eq_true.1 (List.all_eq_true.1 d3 q hq) t ht) j (by simpa using hj)
  simp [hd] at this
  exact this
theorem Inv.advance (g : I4 l = true) (I : Inv P W0 l nt e0 Q ι0 S dn rest val ec es h a w) {i : Nat} {pd : List Nat} {r : List (Nat × List Nat)} (hr : rest = (i, pd) :: r) (hq : effO P l i = false) :
    ∃ val' ec', Inv P W0 l nt e0 Q ι0 S (i :: dn) r val' ec' es h a w := by
  obtain ⟨h1, h2, h3, _, h5⟩ := I.head hr
  have hrun := I.run
  rw [hr] at hrun
  simp only [Jf] at hrun
  have ho : l[i]? = some l[i] := List.getElem?_eq_getElem h2
  generalize l[i] = o at ho
  rw [ho] at hrun
  simp only at hrun
  have hquiet : CI P o.op = true := by simp [effO, ho] at hq; exact hq
  have hag : FM l i val e0 ec := Cp g I.cur h3 fun j hj hb => h1 (I.before hj i hb)
  have hS : ¬ S i := fun hs => h1 (I.sub i hs)
  have hself : i ∉ EM l i := fun hb => h1 (h3 i hb)
  -- in both ways: a value, and what stays
  have fin : ∀ (v : Value), (∃ gg, guardOf l ec o.guard = some gg ∧ (gg = true → C3 P ec h o.op = some (v, h)) ∧ (gg = false → v = undef)) → Jf P W0 l r (ec.putO o.dst v) h Q →
      ∃ val' ec', Inv P W0 l nt e0 Q ι0 S (i :: dn) r val' ec' es h a w := by
    intro v hf hrn
    have hv : ∀ j, j ≠ i → (if j = i then v else val j) = val j := fun j hj => if_neg hj
    have hvd : ∀ j, j ∈ dn → (if j = i then v else val j) = val j := fun j hj => hv j fun e => h1 (e ▸ hj)
    refine ⟨fun j => if j = i then v else val j, ec.putO o.dst v, ?_⟩
    refine ⟨I.closed, fun j hj => List.mem_cons_of_mem _ (I.sub j hj), ?_, ?_, ?_, ?_, h5, ?_, TX (fun j hj => hvd j (I.sub j hj)) I.curS, ?_, hrn, I.sim⟩
    · intro j hj he
      rcases List.mem_cons.1 hj with rfl | hj
      · rw [hq] at he; cases he
      · exact I.effs j hj he
    · intro d1 q d2 hd j hj
      cases d1 with
      | nil => simp at hd; obtain ⟨rfl, rfl⟩ := hd; exact h3 j hj
      | cons x d1 => simp at hd; exact I.topo d1 q d2 hd.2 j hj
    · intro j hj
      rcases List.mem_cons.1 hj with rfl | hj
      · exact h2
      · exact I.inb j hj
    · intro j hj
      rcases I.full j hj with hh | hh
      · exact .inl (List.mem_cons_of_mem _ hh)
      · rw [hr] at hh
        rcases List.mem_cons.1 hh with rfl | hh
        · exact .inl (by simp)
        · exact .inr hh
    · exact Hs (fun j => by simp) (FF g ho h1 I.cur hvd (by simp))
    · intro q hqd hqs
      rcases List.mem_cons.1 hqd with rfl | hqd
      · intro o' ho' e he
        rw [ho] at ho'; cases ho'
        have he2 := Eb (fun j hj => hv j fun e => hself (by rw [e] at hj; exact hj)) he
        obtain ⟨s1, s2⟩ := GB ho (FZ he2 hag)
        obtain ⟨gg, g1, g2, g3⟩ := hf
        exact ⟨gg, by rw [s1]; exact g1, fun hg => by rw [Fi _ s2]; simpa using g2 hg, fun hg => by simpa using g3 hg⟩
      · intro o' ho' e he
        have he2 := Eb (fun j hj => hvd j (I.before hqd j hj)) he
        obtain ⟨gg, g1, g2, g3⟩ := I.pend q hqd hqs o' ho' e he2
        have : (if q = i then v else val q) = val q := hvd q hqd
        exact ⟨gg, g1, fun hg => by simp only [this]; exact g2 hg, fun hg => by simp only [this]; exact g3 hg⟩
  unfold guarded at hrun
  split at hrun
  · rename_i gg hg
    cases gg with
    | false => exact fin undef ⟨false, hg, fun hh => (by cases hh), fun _ => rfl⟩ (hrun.2 rfl)
    | true =>
      replace hrun := hrun.1 rfl
      unfold H9 at hrun
      rw [GW hquiet] at hrun
      simp only [andThen] at hrun
      split at hrun
      · rename_i v h' hv
        obtain ⟨rfl, _⟩ := Ey hquiet hv
        exact fin v ⟨true, hg, fun _ => hv, fun hh => (by cases hh)⟩ hrun.2
      · cases hrun
  · cases hrun
theorem Inv.ahead (g : I4 l = true) : ∀ (rest : List (Nat × List Nat)) (dn : List Nat) (val : Nat → Value) (ec : Env), Inv P W0 l nt e0 Q ι0 S dn rest val ec es h a w →
  ∃ dn' rest' val' ec', Inv P W0 l nt e0 Q ι0 S dn' rest' val' ec' es h a w ∧ ∀ i pd r, rest' = (i, pd) :: r → effO P l i = true := by
 intro rest
 induction rest with
 | nil => intro dn val ec I; exact ⟨dn, [], val, ec, I, fun _ _ _ hh => by cases hh⟩
 | cons p r ih =>
  intro dn val ec I
  obtain ⟨i, pd⟩ := p
  cases hq : effO P l i with
  | true => exact ⟨dn, _, val, ec, I, fun i' pd' r' hh => by cases hh; exact hq⟩
  | false =>
   obtain ⟨val', ec', I'⟩ := I.advance g rfl hq
   exact ih _ _ _ I'
theorem Le {S : Nat → Prop} (hc : ∀ i, S i → ∀ j ∈ EM l i, S j) : ∀ (d A : List Nat), (∀ j ∈ A, S j) → ∀ j ∈ Q6 l d A, S j
 | [], A, h => h
 | q :: r, A, h => by
  simp only [Q6]
  refine Le hc r _ ?_
  split
  ·rename_i hq
   intro j hj
   rcases List.mem_append.1 hj with hj | hj
   ·exact h j hj
   ·exact hc q (h q (by simpa using hq)) j hj
  ·exact h
theorem PZ {S : Nat → Prop} (hc : ∀ i, S i → ∀ j ∈ EM l i, S j) : ∀ (r : List (Nat × List Nat)) (D : List Nat), (∀ j ∈ D, ¬ S j) → descOk l D r = true → ∀ k ∈ r.map (·.1), ¬ ∀ j ∈ EM l k, S j
 | [], D, _, _, k, hk => by simp at hk
 | (q, _) :: r, D, hD, hd, k, hk => by
  simp only [descOk, Bool.and_eq_true] at hd
  have hq : ¬ ∀ j ∈ EM l q, S j := by
   intro hall
   obtain ⟨j, hj, hjD⟩ := List.any_eq_true.1 hd.1
   exact hD j (by simpa using hjD) (hall j hj)
  rcases List.mem_cons.1 hk with rfl | hk
  ·exact hq
  ·refine PZ hc r (q :: D) ?_ hd.2 k hk
   intro j hj
   rcases List.mem_cons.1 hj with rfl | hj
   ·exact fun hs => hq (hc _ hs)
   ·exact hD j hj
theorem K3 {ops : Array Oper} {QQ : Exit → Act → World → Prop} {ι : Ren} {i : Nat} {o : Oper} (ho : ops[i]? = some o) (hok : Eh nt o = true) (re : RE nt ι es a) (s : CT P W0 ι h w)
  {g : Bool} (hg : guardOf ops.toList es o.guard = some g) {Kv : Value → Heap → Prop} (hT : g = true → H9 P W0 es h o.op Kv) {K : Act → World → Prop}
  (hK : g = true → ∀ v h', Kv v h' → ∀ ι' v' w', ι.le ι' → CT P W0 ι' h' w' → RE nt ι' (es.putO o.dst v) (a.put o.dst v') → K (a.put o.dst v') w')
  (hF : g = false → RE nt ι (es.putO o.dst undef) (a.put o.dst undef) → K (a.put o.dst undef) w) : wpOp P ops QQ i K a w := by
 have ⟨hop, hd⟩ := LQ hok
 have hw := Ka (ops := ops) re hg
 unfold wpOp
 rw [ho]
 simp only
 cases g with
 | false => rw [if_neg (by rw [hw]; decide)]; exact hF rfl (re.putO hd OM)
 | true =>
  rw [if_pos hw]
  left
  have hv := hT rfl
  unfold H9 at hv
  split at hv
  ·rename_i f args hc
   obtain ⟨args', hrun, hargs⟩ := K8 re hop hc hv.1 w
   unfold Oper.wp
   rw [hrun]
   simp only [Oper.upon]
   exact (hv.2 ι w args' s hargs).mono fun e w' ⟨v, v', h', ι', h1, h2, h3, h4, h5⟩ => by subst h1; exact hK rfl v h' h5 ι' v' w' h2 h3 ((re.mono h2).putO hd h4)
  ·unfold andThen at hv
   split at hv
   ·rename_i v h' hov
    obtain ⟨ι', w', v', hd', h2, h3, h4⟩ := Nf s re hop hov
    unfold Oper.wp
    rcases hd' with hd' | ⟨hd', rfl⟩
    ·rw [hd']; simp only [Oper.upon]; exact hK rfl v h' hv ι' v' w' h2 h3 ((re.mono h2).putO hd h4)
    ·rw [hd']; simp only [Oper.upon]; exact hK rfl v h' hv ι' undef w' h2 h3 ((re.mono h2).putO hd h4)
   ·cases hv
theorem Inv.step {ops : Array Oper} {QQ : Exit → Act → World → Prop} (hl : l = ops.toList) (hoks : ∀ o ∈ l, Eh nt o = true) (g : I4 l = true) (I : Inv P W0 l nt e0 Q ι0 S dn rest val ec es h a w)
    (hhd : ∀ i pd r, rest = (i, pd) :: r → effO P l i = true) {i : Nat} (hi : i < l.length) (hni : ¬ S i) (hb : ∀ j ∈ EM l i, S j) :
    wpOp P ops QQ i (fun a' w' => ∃ dn' rest' val' ec' es' h', Inv P W0 l nt e0 Q ι0 (fun j => j = i ∨ S j) dn' rest' val' ec' es' h' a' w') a w := by
  have ho : l[i]? = some l[i] := List.getElem?_eq_getElem hi
  have hok := hoks l[i] (List.getElem_mem hi)
  generalize l[i] = o at ho hok
  have Au : ops[i]? = some o := by rw [hl, Array.getElem?_toList] at ho; exact ho
  obtain ⟨ι, hle, hs, hre⟩ := I.sim
  have hclosed : ∀ j, (j = i ∨ S j) → ∀ k ∈ EM l j, k = i ∨ S k := by
    rintro j (rfl | hj) k hk
    · exact .inr (hb k hk)
    · exact .inr (I.closed j hj k hk)
  have hagS : FM l i val e0 es := Cp g I.curS hb fun j hj hbj => hni (I.closed j hj i hbj)
  by_cases hd : i ∈ dn
  · -- planned ahead: its value is known
    obtain ⟨gg, g1, g2, g3⟩ := I.pend i hd hni o ho es hagS
    have hnE : effO P l i = false := by
      cases he : effO P l i with
      | false => rfl
      | true => exact (hni (I.effs i hd he)).elim
    have hquiet : CI P o.op = true := by simp [effO, ho] at hnE; exact hnE
    have next : ∀ (v : Value) (ι' : Ren) (a' : Act) (w' : World), v = val i → ι.le ι' → CT P W0 ι' h w' → RE nt ι' (es.putO o.dst v) a' → ∃ dn' rest' val' ec' es' h', Inv P W0 l nt e0 Q ι0 (fun j => j = i ∨ S j) dn' rest' val' ec' es' h' a' w' := by
      intro v ι' a' w' hv hle' hs' hre'
      refine ⟨dn, rest, val, ec, es.putO o.dst v, h, hclosed, ?_, fun j hj he => .inr (I.effs j hj he), I.topo, I.inb, I.full, I.chk, I.cur, FF g ho hni I.curS (fun _ _ => rfl) hv.symm, fun q hq hqs => I.pend q hq fun hh => hqs (.inr hh), I.run, ι', Ren.le_trans hle hle', hs', hre'⟩
      rintro j (rfl | hj)
      · exact hd
      · exact I.sub j hj
    refine K3 Au hok hre hs (by rw [← hl]; exact g1) (Kv := fun v h' => v = val i ∧ h' = h) ?_ ?_ ?_
    · intro hg
      unfold H9
      rw [GW hquiet, g2 hg]
      exact ⟨rfl, rfl⟩
    · rintro hg v h' ⟨rfl, rfl⟩ ι' v' w' hle' hs' hre'
      exact next _ ι' _ w' rfl hle' hs' hre'
    · intro hg hre'
      exact next undef ι _ w (g3 hg).symm (Ren.le_refl _) hs hre'
  · -- it is what comes next
    have hir : i ∈ rest.map (·.1) := (I.full i hi).resolve_left hd
    obtain ⟨pd, r, hr⟩ : ∃ pd r, rest = (i, pd) :: r := by
      cases hrest : rest with
      | nil => rw [hrest] at hir; cases hir
      | cons p r =>
        obtain ⟨k, pd⟩ := p
        rw [hrest] at hir
        rcases List.mem_cons.1 hir with rfl | hir
        · exact ⟨pd, r, rfl⟩
        · exfalso
          have hE := hhd k pd r hrest
          obtain ⟨k1, k2, k3, k4, k5⟩ := I.head hrest
          have hnk : ¬ S k := fun hh => k1 (I.sub k hh)
          exact PZ I.closed r [k] (by simpa using hnk) (k4 hE).1 i hir hb
    have hE := hhd i pd r hr
    obtain ⟨k1, k2, k3, k4, k5⟩ := I.head hr
    obtain ⟨_, kp, kd⟩ := k4 hE
    have hag : FM l i val e0 ec := Cp g I.cur k3 fun j hj hbj => k1 (I.before hj i hbj)
    obtain ⟨s1, s2⟩ := GB ho (FZ hagS hag)
    have hrun := I.run
    rw [hr] at hrun
    simp only [Jf, ho] at hrun
    have hself : i ∉ EM l i := fun hh => hni (hb i hh)
    have next : ∀ (v : Value) (h' : Heap) (ι' : Ren) (a' : Act) (w' : World), Jf P W0 l r (ec.putO o.dst v) h' Q → (∀ q ∈ dn, ¬ S q → aL P l q val e0 h') → ι.le ι' → CT P W0 ι' h' w' → RE nt ι' (es.putO o.dst v) a' →
        ∃ dn' rest' val' ec' es' h', Inv P W0 l nt e0 Q ι0 (fun j => j = i ∨ S j) dn' rest' val' ec' es' h' a' w' := by
      intro v h' ι' a' w' hrn hfine hle' hs' hre'
      have hv : ∀ j, j ≠ i → (if j = i then v else val j) = val j := fun j hj => if_neg hj
      have hvd : ∀ j, j ∈ dn → (if j = i then v else val j) = val j := fun j hj => hv j fun e => k1 (e ▸ hj)
      refine ⟨i :: dn, r, fun j => if j = i then v else val j, ec.putO o.dst v, es.putO o.dst v, h', hclosed, ?_, ?_, ?_, ?_, ?_, k5, ?_, ?_, ?_, hrn, ι', Ren.le_trans hle hle', hs', hre'⟩
      · rintro j (rfl | hj)
        · simp
        · exact List.mem_cons_of_mem _ (I.sub j hj)
      · intro j hj he
        rcases List.mem_cons.1 hj with rfl | hj
        · exact .inl rfl
        · exact .inr (I.effs j hj he)
      · intro d1 q d2 hd j hj
        cases d1 with
        | nil => simp at hd; obtain ⟨rfl, rfl⟩ := hd; exact k3 j hj
        | cons x d1 => simp at hd; exact I.topo d1 q d2 hd.2 j hj
      · intro j hj
        rcases List.mem_cons.1 hj with rfl | hj
        · exact k2
        · exact I.inb j hj
      · intro j hj
        rcases I.full j hj with hh | hh
        · exact .inl (List.mem_cons_of_mem _ hh)
        · rw [hr] at hh
          rcases List.mem_cons.1 hh with rfl | hh
          · exact .inl (by simp)
          · exact .inr hh
      · exact Hs (fun j => by simp) (FF g ho k1 I.cur hvd (by simp))
      · exact FF g ho hni I.curS (fun j hj => hvd j (I.sub j hj)) (by simp)
      · intro q hqd hqs
        rcases List.mem_cons.1 hqd with rfl | hqd
        · exact (hqs (.inl rfl)).elim
        · intro o' ho' e he
          have he2 := Eb (fun j hj => hvd j (I.before hqd j hj)) he
          obtain ⟨gg, g1, g2, g3⟩ := hfine q hqd (fun hh => hqs (.inr hh)) o' ho' e he2
          have : (if q = i then v else val q) = val q := hvd q hqd
          exact ⟨gg, g1, fun hg => by simp only [this]; exact g2 hg, fun hg => by simp only [this]; exact g3 hg⟩
    unfold guarded at hrun
    split at hrun
    · rename_i gg hg
      refine K3 Au hok hre hs (g := gg) (by rw [← hl, s1]; exact hg) (Kv := fun v h' => (∀ q ∈ pd, stays P l q (ec.putO o.dst v) h') ∧ Jf P W0 l r (ec.putO o.dst v) h' Q) ?_ ?_ ?_
      · intro hgg; rw [Nv _ s2]; exact hrun.1 hgg
      · rintro hgg v h' ⟨hst, hrn⟩ ι' v' w' hle' hs' hre'
        refine next v h' ι' _ w' hrn ?_ hle' hs' hre'
        intro q hqd hqs o' ho' e he
        obtain ⟨g0, g1, g2, g3⟩ := I.pend q hqd hqs o' ho' e he
        have hqE : CI P o'.op = true := by
          have : effO P l q = false := by
            cases hh : effO P l q with
            | false => rfl
            | true => exact (hqs (I.effs q hqd hh)).elim
          simpa [effO, ho'] using this
        refine ⟨g0, g1, fun hg0 => ?_, g3⟩
        have hold := g2 hg0
        cases hp : Lp P o'.op with
        | true => exact (Ey hqE hold).2 hp h'
        | false =>
          have hstale : Je P l q = true := by simp [Je, ho', hp]
          have hqpd : q ∈ pd := by
            rcases kp q hqd hstale with hh | hh
            · exact hh
            · exact (hqs (Le I.closed dn _ hb q hh)).elim
          -- the environment behind it looks the same to q
          have hagq : FM l q val e0 (ec.putO o.dst v) := by
            intro t ht
            have hno : o.dst ≠ some t := by
              intro hdt
              have hdi : Ba l i = some t := by rw [C8, ho]; exact hdt
              exact k1 (I.before hqd i (kd q hqpd t ht i (.inl rfl) hdi))
            have hput : ec.putO o.dst v t = ec t := by
              cases hdo : o.dst with
              | none => rfl
              | some d => simp [Env.putO, Env.put]; intro htd; subst htd; exact absurd hdo hno
            rw [hput]
            exact ⟨fun j hj hdj => (I.cur t).1 j (I.before hqd j hj) hdj, fun hno2 => (I.cur t).2 fun j hj hdj => hno2 j (kd q hqpd t ht j (.inr hj) hdj) hdj⟩
          obtain ⟨q1, q2⟩ := GB ho' (FZ he hagq)
          have hs3 := hst q hqpd
          unfold stays at hs3
          rw [ho'] at hs3
          simp only at hs3
          rw [← q1, g1, hg0] at hs3
          simp only at hs3
          rw [← Fi _ q2] at hs3
          cases hdq : o'.dst with
          | none =>
            rw [hdq] at hs3
            exact hs3.elim
          | some d =>
            rw [hdq] at hs3
            simp only at hs3
            have hval : ec.putO o.dst v d = val q := by
              have hdq' : Ba l q = some d := by rw [C8, ho']; exact hdq
              have hno : o.dst ≠ some d := by
                intro hdd
                have hdi : Ba l i = some d := by rw [C8, ho]; exact hdd
                exact k1 ((Ly g hdi hdq') ▸ hqd)
              have hput : ec.putO o.dst v d = ec d := by
                cases hdo : o.dst with
                | none => rfl
                | some d' => simp [Env.putO, Env.put]; intro htd; subst htd; exact absurd hdo hno
              rw [hput]; exact (I.cur d).1 q hqd hdq'
            rw [hval] at hs3; exact hs3
      · intro hgg hre'
        refine next undef h ι _ w (hrun.2 hgg) (fun q hqd hqs => I.pend q hqd hqs) (Ren.le_refl _) hs hre'
    · cases hrun
end
end Go.Ai
namespace Go.Ai
variable {P : Program} {W0 : World}
theorem Lq {X : Nat → Prop} : ∀ (l : List Nat), (∃ q ∈ l, ¬ X q) → ∃ d1 q d2, l = d1 ++ q :: d2 ∧ ¬ X q ∧ ∀ j ∈ d2, X j
 | [], h => by obtain ⟨q, hq, _⟩ := h; cases hq
 | x :: l, h => by
  by_cases hl : ∃ q ∈ l, ¬ X q
  ·obtain ⟨d1, q, d2, h1, h2, h3⟩ := Lq l hl
   exact ⟨x :: d1, q, d2, by rw [h1]; rfl, h2, h3⟩
  ·obtain ⟨q, hq, hx⟩ := h
   rcases List.mem_cons.1 hq with rfl | hq
   ·exact ⟨[], q, l, rfl, hx, fun j hj => Classical.not_not.1 fun hn => hl ⟨j, hj, hn⟩⟩
   ·exact (hl ⟨q, hq, hx⟩).elim
section
variable {l : List Oper} {nt : Nat} {e0 : Env} {Q : QT} {ι0 : Ren} {S : Nat → Prop} {dn : List Nat} {rest : List (Nat × List Nat)} {val : Nat → Value} {ec es : Env} {h : Heap} {a : Act} {w : World}
theorem Inv.exists_ready (I : Inv P W0 l nt e0 Q ι0 S dn rest val ec es h a w) (hex : ∃ i, i < l.length ∧ ¬ S i) : ∃ i, i < l.length ∧ ¬ S i ∧ ∀ j ∈ EM l i, S j := by
 by_cases hd : ∃ q ∈ dn, ¬ S q
 ·obtain ⟨d1, q, d2, h1, h2, h3⟩ := Lq dn hd
  exact ⟨q, I.inb q (by rw [h1]; simp), h2, fun j hj => h3 j (I.topo d1 q d2 h1 j hj)⟩
 ·have hall : ∀ q ∈ dn, S q := fun q hq => Classical.not_not.1 fun hn => hd ⟨q, hq, hn⟩
  obtain ⟨i, hi, hn⟩ := hex
  have hir := (I.full i hi).resolve_left fun hh => hn (hall i hh)
  cases hrest : rest with
  | nil => rw [hrest] at hir; cases hir
  | cons p r =>
   obtain ⟨k, pd⟩ := p
   obtain ⟨k1, k2, k3, _⟩ := I.head hrest
   exact ⟨k, k2, fun hh => k1 (I.sub k hh), fun j hj => hall j (k3 j hj)⟩
theorem Inv.finish (I : Inv P W0 l nt e0 Q ι0 S dn rest val ec es h a w) (hall : ∀ i, i < l.length → S i) : HG P W0 nt ι0 Q .normal a w := by
 have hr : rest = [] := by
  cases hrest : rest with
  | nil => rfl
  | cons p r =>
   obtain ⟨k, pd⟩ := p
   obtain ⟨k1, k2, _⟩ := I.head hrest
   exact (k1 (I.sub k (hall k k2))).elim
 have hrun := I.run
 rw [hr] at hrun
 simp only [Jf] at hrun
 have hee : ec = es := W8 I.cur (Hs (fun j => ⟨fun hj => I.sub j hj, fun hj => hall j (I.inb j hj)⟩) I.curS)
 obtain ⟨ι, h1, h2, h3⟩ := I.sim
 exact ⟨.normal, es, h, ι, rfl, h1, h2, h3, hee ▸ hrun⟩
theorem mem_ready {ops : Array Oper} {listed : Array Bool} (hs : listed.size = ops.size) {i : Nat} : i ∈ Region.ready .any ops listed ↔ i < ops.size ∧ listed.getD i false = false ∧ ∀ j ∈ EM ops.toList i, listed.getD j false = true := by
 unfold Region.ready EM
 rw [List.mem_filter, List.mem_range, Bool.and_eq_true]
 constructor
 ·rintro ⟨h1, h2, h3⟩
  have ho : ops[i]? = some ops[i] := Array.getElem?_eq_getElem h1
  refine ⟨h1, by simp [Array.getD_eq_getD_getElem?, Array.getElem?_eq_getElem (show i < listed.size by omega)] at h2 ⊢; exact h2, ?_⟩
  rw [ho] at h3
  rw [Array.getElem?_toList, ho]
  simp only [Option.map_some, Option.getD_some] at h3 ⊢
  intro j hj
  obtain ⟨e, he, rfl⟩ := List.mem_map.1 hj
  obtain ⟨he1, he2⟩ := List.mem_filter.1 he
  have := Array.all_eq_true_iff_forall_mem.1 h3 e (by simpa using he1)
  simpa [he2] using this
 ·rintro ⟨h1, h2, h3⟩
  have ho : ops[i]? = some ops[i] := Array.getElem?_eq_getElem h1
  refine ⟨h1, by simp [Array.getD_eq_getD_getElem?, Array.getElem?_eq_getElem (show i < listed.size by omega)] at h2 ⊢; exact h2, ?_⟩
  rw [Array.getElem?_toList, ho] at h3
  rw [ho]
  simp only [Option.map_some, Option.getD_some] at h3 ⊢
  refine Array.all_eq_true_iff_forall_mem.2 fun e he => ?_
  cases hb : Region.binds .any e with
  | false => simp
  | true => simpa using h3 e.on (List.mem_map.2 ⟨e, List.mem_filter.2 ⟨by simpa using he, hb⟩, rfl⟩)
theorem Inv.any {ops : Array Oper} (hl : l = ops.toList) (hoks : ∀ o ∈ l, Eh nt o = true) (g : I4 l = true) : ∀ (fuel : Nat) (listed : Array Bool) (dn : List Nat) (rest : List (Nat × List Nat)) (val : Nat → Value) (ec es : Env) (h : Heap) (a : Act) (w : World),
    listed.size = ops.size → ((List.range l.length).filter fun i => !(listed.getD i false)).length ≤ fuel →
    Inv P W0 l nt e0 Q ι0 (fun i => listed.getD i false = true) dn rest val ec es h a w → wpAny P .any ops (HG P W0 nt ι0 Q) fuel listed a w := by
  have hlen : l.length = ops.size := by rw [hl]; simp
  intro fuel
  induction fuel with
  | zero =>
    intro listed dn rest val ec es h a w hsz hf I
    have hall : ∀ i, i < l.length → listed.getD i false = true := by
      intro i hi
      have : i ∉ (List.range l.length).filter fun i => !(listed.getD i false) := by
        rw [List.eq_nil_of_length_eq_zero (Nat.le_zero.1 hf)]; simp
      simpa [List.mem_filter, hi] using this
    refine ⟨?_, I.finish hall⟩
    rw [List.eq_nil_iff_forall_not_mem]
    intro i hi
    obtain ⟨h1, h2, _⟩ := (mem_ready hsz).1 hi
    rw [hall i (by omega)] at h2; cases h2
  | succ fuel ih =>
    intro listed dn rest val ec es h a w hsz hf I
    constructor
    · intro hr
      refine I.finish fun i hi => Classical.not_not.1 fun hn => ?_
      obtain ⟨k, h1, h2, h3⟩ := I.exists_ready ⟨i, hi, hn⟩
      have : k ∈ Region.ready .any ops listed := (mem_ready hsz).2 ⟨by omega, by simpa using h2, by rw [← hl]; exact h3⟩
      rw [hr] at this; cases this
    · intro i hi
      obtain ⟨h1, h2, h3⟩ := (mem_ready hsz).1 hi
      obtain ⟨dn', rest', val', ec', I', hhd⟩ := I.ahead g
      refine wpOp_mono ?_ (I'.step (QQ := HG P W0 nt ι0 Q) hl hoks g hhd (by omega) (by simp [h2]) (by rw [hl]; exact h3))
      rintro a' w' ⟨dn2, rest2, val2, ec2, es2, h2', I2⟩
      have hS : (fun j => j = i ∨ listed.getD j false = true) = fun j => (listed.setIfInBounds i true).getD j false = true := by
        funext j
        simp only [Array.getD_eq_getD_getElem?, Array.getElem?_setIfInBounds]
        by_cases hj : i = j
        · subst hj; simp [show i < listed.size by omega]
        · have hj' : ¬ j = i := fun e => hj e.symm
          simp [hj, hj']
      rw [hS] at I2
      refine ih _ _ _ _ _ _ _ _ _ (by simpa using hsz) ?_ I2
      have hfe : ((List.range l.length).filter fun j => !((listed.setIfInBounds i true).getD j false)) = ((List.range l.length).filter fun j => !(listed.getD j false)).filter fun j => decide (j ≠ i) := by
        rw [List.filter_filter]
        apply List.filter_congr
        intro j _
        have := congrFun hS j
        by_cases hj : j = i
        · subst hj; simp [Array.getD_eq_getD_getElem?, show j < listed.size by omega]
        · have e1 : (listed.setIfInBounds i true).getD j false = listed.getD j false := by
            simp only [Array.getD_eq_getD_getElem?, Array.getElem?_setIfInBounds, if_neg (fun hh : i = j => hj hh.symm)]
          rw [e1]; simp [hj]
      rw [hfe]
      have hlt : (((List.range l.length).filter fun j => !(listed.getD j false)).filter fun j => decide (j ≠ i)).length < ((List.range l.length).filter fun j => !(listed.getD j false)).length := by
        rw [List.length_filter_lt_length_iff_exists]
        exact ⟨i, List.mem_filter.2 ⟨by simp; omega, by simp [h2]⟩, by simp⟩
      omega
end
def DQ (P : Program) (W0 : World) : DT := fun l e h Q => ∃ p, IX P l p = true ∧ Jf P W0 l p e h Q
theorem X4 {nt : Nat} (hm : P.follows .mixedOrders = true) : LC P W0 nt (DQ P W0) fun _ => true := by
 intro id ops e h Q hoks _ hD ι a w hs hr
 obtain ⟨p, hp, hrun⟩ := hD
 simp only [IX, Bool.and_eq_true] at hp
 obtain ⟨g, hfull, hchk⟩ := hp
 refine wp_region_any hm ?_
 have hs' : CT P W0 ι h { w with drawn := w.drawn + 1 } := ⟨hs.base, hs.size, hs.dom, hs.own, hs.live, hs.wr, hs.ro, hs.nle, hs.inj, hs.cell, hs.env⟩
 have hrep : ∀ i, (Array.replicate ops.size false).getD i false = false := by
  intro i; simp only [Array.getD_eq_getD_getElem?, Array.getElem?_replicate]; split <;> rfl
 refine Inv.any (l := ops.toList) (e0 := e) rfl hoks g ops.size _ [] p (fun _ => undef) e e h a _ (by simp) ?_ ?_
 ·refine Nat.le_trans (List.length_filter_le _ _) (by simp)
 ·refine ⟨?_, ?_, ?_, ?_, ?_, ?_, hchk, ?_, ?_, ?_, hrun, ι, Ren.le_refl _, hs', hr⟩
  ·intro i hi; simp only [hrep] at hi; cases hi
  ·intro i hi; simp only [hrep] at hi; cases hi
  ·intro i hi; cases hi
  ·intro d1 q d2 hd; cases d1 <;> cases hd
  ·intro i hi; cases hi
  ·intro i hi
   have := List.all_eq_true.1 hfull i (by simpa using hi)
   exact .inr (by simpa using this)
  ·intro t; exact ⟨fun j hj => (by cases hj), fun _ => rfl⟩
  ·intro t; exact ⟨fun j hj => (by simp only [hrep] at hj; cases hj), fun _ => rfl⟩
  ·intro q hq; cases hq
end Go.Ai
namespace Go.Ai
variable {P : Program} {W0 : World} {e : Env} {h : Heap} {Q : QT} {K : KT}
def Fe (P : Program) (W0 : World) (l : List Oper) (p : List (Nat × List Nat)) (e : Env) (h : Heap) (Q : QT) (_ : Ar (l, p, e, h, Q)) : Prop := Jf P W0 l p e h Q
def Zp (l : List Oper) (i : Nat) (_ : Ar l) : Option Oper := l[i]?
theorem iH {o : Oper} {l : List Oper} : Zp (o :: l) 0 .mk = some o := rfl
theorem iE {o : Oper} {l : List Oper} {i : Nat} : Zp (o :: l) (i + 1) .mk = Zp l i .mk := by simp [Zp]
def rK (P : Program) (W0 : World) (l : List Oper) (pd : List Nat) (r : List (Nat × List Nat)) (d : Option Tmp) (e : Env) (Q : QT) : KT :=
 fun v h' => (∀ q ∈ pd, stays P l q (e.putO d v) h') ∧ Jf P W0 l r (e.putO d v) h' Q
def R2 (P : Program) (W0 : World) (l : List Oper) (o : Option Oper) (pd : List Nat) (r : List (Nat × List Nat)) (e : Env) (h : Heap) (Q : QT) (_ : Ar (l, pd, r, e, h, Q)) : Prop := match o with
 | none => False
 | some o => guarded (guardOf l e o.guard) (H9 P W0 e h o.op (rK P W0 l pd r o.dst e Q)) (Jf P W0 l r (e.putO o.dst undef) h Q)
theorem Ol {l : List Oper} : Fe P W0 l [] e h Q .mk = qz Q .normal e h .mk := rfl
theorem Ls {l : List Oper} {i : Nat} {pd : List Nat} {r : List (Nat × List Nat)} : Fe P W0 l ((i, pd) :: r) e h Q .mk = R2 P W0 l (Zp l i .mk) pd r e h Q .mk := rfl
theorem MB {l : List Oper} {pd : List Nat} {r : List (Nat × List Nat)} {d : Option Tmp} {o : Op} {t : TypeId} {p : String} {a : Array Edge} :
  R2 P W0 l (some ⟨d, o, t, p, a, none⟩) pd r e h Q .mk = xz P W0 o e h (rK P W0 l pd r d e Q) .mk := by
 show gate true (H9 P W0 e h o (rK P W0 l pd r d e Q)) _ = H9 P W0 e h o (rK P W0 l pd r d e Q)
 simp only [gate]; exact propext ⟨fun hh => hh.1 trivial, fun hh => ⟨fun _ => hh, fun hf => absurd hf (by simp)⟩⟩
theorem kr {l : List Oper} {r : List (Nat × List Nat)} {d : Option Tmp} {v : Value} : kz (rK P W0 l [] r d e Q) v h .mk = Fe P W0 l r (e.putO d v) h Q .mk := by
 simp [kz, rK, Fe]
theorem AO {cp : Nat → Option (List Nat)} {l : List Oper} (p : List (Nat × List Nat)) (hp : IX P l p = true) (hr : Fe P W0 l p e h Q .mk) : bZ ⟨DQ P W0, cp⟩ l e h Q .mk := ⟨p, hp, hr⟩
theorem start (cp : List (List Nat)) {f : FuncId} {fn : Func} {c : Code} (hm : P.follows .mixedOrders = true) (hf : P.funcs[f]? = some fn) (hb : fn.body = some c)
    (hn : (fn.name != "runtime.NumGoroutine") = true) (hok : Bd fn.ntmps (fun _ => true) c = true) {rs : List ResultVar} (hrs : fn.results.toList = rs) {args : List Value} {nt : Nat} (hnt : fn.ntmps = nt) (hlen : args.length ≤ nt)
    (hv : cz P W0 ⟨DQ P W0, Ro cp⟩ c (DD args) h (ends P rs K) .mk) : WC P W0 f args h K := Wz (D := ⟨DQ P W0, Ro cp⟩) (X4 hm) hf hb hn hok hrs hnt hlen hv
attribute [go_sem] iH iE Ol Ls MB
end Go.Ai
namespace Go.Ai
theorem VL {x : Int} : IntKind.i64.wrap x = if 9223372036854775808 ≤ x % 18446744073709551616 then x % 18446744073709551616 - 18446744073709551616 else x % 18446744073709551616 := by
 simp [IntKind.wrap, IntKind.signed, IntKind.bits]
theorem wrap_i64 {x : Int} (h1 : -9223372036854775808 ≤ x) (h2 : x < 9223372036854775808) : IntKind.i64.wrap x = x := by
 rw [VL]; split <;> omega
theorem wrap_u64 {x : Int} : IntKind.u64.wrap x = x % 18446744073709551616 := by
 simp [IntKind.wrap, IntKind.signed, IntKind.bits]
theorem wrap_u8 {x : Int} : IntKind.u8.wrap x = x % 256 := by
 simp [IntKind.wrap, IntKind.signed, IntKind.bits]
end Go.Ai
namespace Go.Ai
variable {P : Program} {W0 : World} {D : ID} {e : Env} {h : Heap} {Q : QT} {K : KT}
theorem Heap.le.keep {h h' : Heap} (l : h.le h') : ∀ b, b < hn h .mk → hg h' b .mk = hg h b .mk := fun b hb => l.2 b hb
theorem Heap.le.n {h h' : Heap} (l : h.le h') : hn h .mk ≤ hn h' .mk := l.1
theorem iA {a b : Nat} (h : a < b) : (a < b + 1) = True := eq_true (by omega)
theorem Ys {a : Nat} : (a < a + 1) = True := eq_true (by omega)
theorem eF {a : Nat} : (a + 1 == a) = false := by simp
theorem dD {a : Nat} : (a + 1 + 1 == a) = false := by simp; omega
theorem cC {a : Nat} : (a + 1 + 1 + 1 == a) = false := by simp; omega
theorem cN {a : Nat} : (a + 1 + 1 + 1 + 1 == a) = false := by simp; omega
theorem eT {a b : Nat} : (a + 1 == b + 1) = (a == b) := by rw [Bool.eq_iff_iff]; simp
theorem eG {a : Nat} : (a == a + 1) = false := by simp
theorem cF {a : Nat} : (a == a + 1 + 1) = false := by simp; omega
theorem cn {a : Nat} : (a == a + 1 + 1 + 1) = false := by simp; omega
theorem eO {a : Nat} : (a == a + 1 + 1 + 1 + 1) = false := by simp; omega
theorem CG {h h' : Heap} {b : Nat} {k : Kc} (l : h.le h') (hb : hn h .mk ≤ b) : h.le (h'.set b k) :=
  ⟨l.1, fun c hc => by have : ¬ c = b := by unfold hn at hb; omega
                       simp only [Heap.set, if_neg this]; exact l.2 c hc⟩
theorem le_push {h h' : Heap} {k : Kc} (l : h.le h') : h.le (h'.push k) := Heap.le_trans l (Heap.le_push _ _)
theorem JT {h h' : Heap} {b : Nat} (l : h.le h') (hb : hn h .mk ≤ b) : h.le (h'.kill b) :=
  ⟨l.1, fun c hc => by have : ¬ c = b := by unfold hn at hb; omega
                       simp only [Heap.kill, if_neg this]; exact l.2 c hc⟩
def I1 (h : Heap) (a : Option Addr) (n : Nat) (xs : List Value) : Prop :=
 n = xs.length ∧ ∀ i, i < n → ∃ b off w z cs, a = some ⟨b, off, none⟩ ∧ hg h b .mk = some ⟨w, z, cs⟩ ∧ b < hn h .mk ∧ cs[off + i]? = xs[i]?
theorem I1.mono {h h' : Heap} {a : Option Addr} {n : Nat} {xs : List Value} (r : I1 h a n xs) (l : h.le h') : I1 h' a n xs :=
 ⟨r.1, fun i hi => by
  obtain ⟨b, off, w, z, cs, h1, h2, h3, h4⟩ := r.2 i hi
  exact ⟨b, off, w, z, cs, h1, by rw [l.keep b h3]; exact h2, Nat.lt_of_lt_of_le h3 l.n, h4⟩⟩
theorem rep_one {n : Nat} {v : Value} : repL n [v] = List.replicate n v := by
 induction n with
 | zero => rfl
 | succ n ih => rw [Yd, ih]; rfl
attribute [go_sem] iA Ys eF dD cC cN eT eG cF cn eO
end Go.Ai
namespace Go.Ai
variable {P : Program} {W0 : World} {D : ID} {e : Env} {h : Heap} {Q : QT} {K : KT}
def AP : Value → Option Nat
 | .slice (some a) _ _ => some a.block
 | _ => none
def Own (N : Nat) (h : Heap) (v : Value) (z n : Nat) (cs : List Value) : Prop :=
 cs.length = n * z ∧ ∃ a c, v = .slice a n c ∧ ((a = none ∧ n = 0) ∨ ∃ b, a = some ⟨b, 0, none⟩ ∧ N ≤ b ∧ b < hn h .mk ∧ hg h b .mk = some ⟨true, z, cs⟩)
theorem Own.keep {N : Nat} {h h' : Heap} {v : Value} {z n : Nat} {cs : List Value} (o : Own N h v z n cs) (l : h.le h') : Own N h' v z n cs := by
 obtain ⟨h1, a, c, h2, h3⟩ := o
 refine ⟨h1, a, c, h2, h3.imp_right ?_⟩
 rintro ⟨b, e1, e2, e3, e4⟩
 exact ⟨b, e1, e2, Nat.lt_of_lt_of_le e3 l.n, by rw [l.keep b e3]; exact e4⟩
theorem Own.nil {N : Nat} {h : Heap} {z c : Nat} : Own N h (.slice none 0 c) z 0 [] := ⟨by simp, none, c, rfl, .inl ⟨rfl, rfl⟩⟩
theorem DR {t u T z y N n b2 c2 z2 : Nat} {w2 : Bool} {zs cs news : List Value} {x : Value} (he : elt? P t = some (T, z + 1, y)) (hz : zr? P T = some zs) (hl : zs.length = z + 1) (hu : cls? P u = some .sl)
  (hx : Own N h x (z + 1) n cs) (hN0 : N ≤ hn h .mk) (hn0 : (n + 1) * (y + 1) ≤ most) (h2 : hg h b2 .mk = some ⟨w2, z2, news⟩) (hnl : news.length = z + 1) (hok : news.all FR = true)
  (hk : ∀ v' h', Own N h' v' (z + 1) (n + 1) (cs ++ news) → hn h .mk ≤ hn h' .mk → (∀ h0 : Heap, hn h0 .mk ≤ N → h0.le h → h0.le h') → (∀ b, b < hn h .mk → AP x ≠ some b → hg h' b .mk = hg h b .mk) → kz K v' h' .mk) :
  az (EL P h .append [t, u] [x, .slice (some ⟨b2, 0, none⟩) 1 c2] .mk) K .mk := by
 obtain ⟨hlen, a, c, rfl, hcase⟩ := hx
 have h2' : h.get b2 = some ⟨w2, z2, news⟩ := h2
 have hrd : rd news 0 (1 * (z + 1)) = some news := by rw [Ge]; omega
 rcases hcase with ⟨rfl, rfl⟩ | ⟨b, rfl, hNb, hbn, hb⟩
 ·have hcs : cs = [] := List.eq_nil_of_length_eq_zero (by omega)
  subst hcs
  have e1 : EL P h .append [t, u] [.slice none 0 c, .slice (some ⟨b2, 0, none⟩) 1 c2] .mk = some (.slice (some ⟨h.n, 0, none⟩) 1 1, h.push ⟨true, z + 1, news⟩) := by
   simp only [EL, BY, hu, if_true, EX, he, PG, h2', hrd, Option.map_some, hz]
   rw [if_pos ⟨hl, hn0, hok⟩, if_neg (by decide)]
  rw [e1]
  have hmk : (h.n == h.n) = true := by simp
  refine hk _ _ ⟨by simp; omega, _, _, rfl, .inr ⟨h.n, rfl, ?_, ?_, ?_⟩⟩ ?_ ?_ ?_
  ·exact hN0
  ·simp [hn, Heap.push]
  ·simp [hg, Heap.push]
  ·simp [hn, Heap.push]
  ·intro h0 _ l0; exact le_push l0
  ·intro b' hb' _
   simp only [hg, Heap.push]; rw [if_neg (by unfold hn at hb'; omega)]
 ·have hb' : h.get b = some ⟨true, z + 1, cs⟩ := hb
  have e1 : EL P h .append [t, u] [.slice (some ⟨b, 0, none⟩) n c, .slice (some ⟨b2, 0, none⟩) 1 c2] .mk = some (.slice (some ⟨h.n, 0, none⟩) (n + 1) (n + 1), (h.kill b).push ⟨true, z + 1, cs ++ news⟩) := by
   simp only [EL, BY, hu, if_true, EX, he, PG, h2', hrd, Option.map_some, hz, hb']
   rw [if_pos ⟨hl, hn0, hok⟩, if_neg (by decide), if_pos ⟨trivial, trivial, trivial⟩, Ge hlen]
   rfl
  rw [e1]
  have hne : ¬ b = h.n := by unfold hn at hbn; omega
  refine hk _ _ ⟨by simp [hlen, hnl, Nat.add_mul], _, _, rfl, .inr ⟨h.n, rfl, ?_, ?_, ?_⟩⟩ ?_ ?_ ?_
  ·unfold hn at hbn; omega
  ·simp [hn, Heap.push, Heap.kill]
  ·simp [hg, Heap.push, Heap.kill]
  ·simp [hn, Heap.push, Heap.kill]
  ·intro h0 hN l0; exact le_push (JT l0 (by omega))
  ·intro b' hb2 hne'
   have hbb : ¬ b' = b := fun e => hne' (by rw [e]; rfl)
   have h5 : ¬ b' = h.n := by unfold hn at hb2; omega
   simp [hg, Heap.push, Heap.kill, h5, hbb]
theorem append_push {t u T z y N n c2 z2 : Nat} {zs cs news : List Value} {x : Value} (he : elt? P t = some (T, z + 1, y)) (hz : zr? P T = some zs) (hl : zs.length = z + 1) (hu : cls? P u = some .sl)
  (hx : Own N h x (z + 1) n cs) (hN0 : N ≤ hn h .mk) (hn0 : (n + 1) * (y + 1) ≤ most) (hnl : news.length = z + 1) (hok : news.all FR = true)
  (hk : ∀ v' h', Own N h' v' (z + 1) (n + 1) (cs ++ news) → hn h .mk ≤ hn h' .mk → (∀ h0 : Heap, hn h0 .mk ≤ N → h0.le h → h0.le h') → (∀ b, b < hn h .mk → AP x ≠ some b → hg h' b .mk = hg h b .mk) → kz K v' h' .mk) :
  az (EL P (h.push ⟨true, z2, news⟩) .append [t, u] [x, .slice (some ⟨hn h .mk, 0, none⟩) 1 c2] .mk) K .mk := by
 have hl1 : hn (h.push ⟨true, z2, news⟩) .mk = hn h .mk + 1 := rfl
 refine DR he hz hl hu (hx.keep (Heap.le_push _ _)) (by omega) hn0 (b2 := hn h .mk) (w2 := true) (z2 := z2) (news := news) ?_ hnl hok ?_
 ·rw [Ap, show (hn h .mk == hn h .mk) = true by simp]; rfl
 ·intro v' h' h1 h2 h3 h4
  refine hk v' h' h1 (by omega) (fun h0 hN l => h3 h0 hN (le_push l)) fun b hb hne => ?_
  rw [h4 b (by omega) hne]
  exact (Heap.le_push h _).keep b hb
end Go.Ai
end
