/- Own lemmas that the theorem of this claim needs: the abstract machine and walks of functions. -/
import Derived.Test.YtegpkkefbmcddaaGreatQfLawAA
import Derived.Tactics
import Derived.Deep.Quiet
set_option linter.unusedSimpArgs false
set_option linter.unusedVariables false
section
namespace Go.Ai
variable {P : Program} {W0 : World}
def U4 (P : Program) (f : FuncId) : Bool := match P.funcs[f]? with | some fn => fn.name != "runtime.NumGoroutine" && fn.body.isSome | none => false
def WC (P : Program) (W0 : World) (f : FuncId) (args : List Value) (h : Heap) (Q : Value → Heap → Prop) : Prop :=
 U4 P f = true ∧ ∀ (ι : Ren) (w : World) (args' : Array Value), CU P W0 ι h w → BJ (R ι) args args'.toList →
  Calls P f args' w fun e w' => ∃ v v' h' ι', e = .returned v' ∧ ι.le ι' ∧ CU P W0 ι' h' w' ∧ R ι' v v' ∧ Q v h'
theorem WC.mono {f : FuncId} {args : List Value} {h : Heap} {Q Q' : Value → Heap → Prop} (c : WC P W0 f args h Q) (hq : ∀ v h', Q v h' → Q' v h') : WC P W0 f args h Q' :=
 ⟨c.1, fun ι w args' s ha => (c.2 ι w args' s ha).mono fun e w' ⟨v, v', h', ι', h1, h2, h3, h4, h5⟩ => ⟨v, v', h', ι', h1, h2, h3, h4, hq _ _ h5⟩⟩
abbrev QT := Ex → Env → Heap → Prop
def G6 (P : Program) (W0 : World) (nt : Nat) (ι : Ren) (Q : QT) : Exit → Act → World → Prop := fun e a' w' =>
 ∃ x e' h' ι', e = Ex.of x ∧ ι.le ι' ∧ CU P W0 ι' h' w' ∧ RE nt ι' e' a' ∧ Q x e' h'
def W (P : Program) (W0 : World) (nt : Nat) (c : Code) (e : Env) (h : Heap) (Q : QT) : Prop :=
 ∀ (ι : Ren) (a : Act) (w : World), CU P W0 ι h w → RE nt ι e a → c.wp P (G6 P W0 nt ι Q) a w
def B6 (e : Env) : Op → Option (FuncId × List Value)
 | .call { callee := .value f, args := xs, argTypes := _ } =>
  match e.op f with
  | .func (.func g) first caps => if first.size = 0 then some (g, xs.toList.map e.op ++ caps.toList) else none
  | _ => none
 | _ => none
def Ba : List Oper → Nat → Option Nat
 | [], _ => none
 | o :: _, 0 => o.dst
 | _ :: l, n + 1 => Ba l n
def ND (want : Bool) : Value → Option Bool
 | .bool b => some (b == want)
 | .tuple _ => some false
 | _ => none
def guardOf (ops : List Oper) (e : Env) : Option (Nat × Bool) → Option Bool
 | none => some true
 | some (j, want) => match Ba ops j with
  | none => some false
  | some t => ND want (e t)
theorem C8 : ∀ (l : List Oper) (j : Nat), Ba l j = (l[j]?).bind (·.dst)
 | [], j => by simp [Ba]
 | o :: l, 0 => by simp [Ba]
 | o :: l, n + 1 => by simp [Ba, C8 l n]
theorem Kc {ops : Array Oper} {nt : Nat} {ι : Ren} {e : Env} {a : Act} {o : Oper} {b : Bool} (re : RE nt ι e a) (h : guardOf ops.toList e o.guard = some b) : Region.wanted o (yielded ops a.tmps) = b := by
 unfold guardOf at h
 unfold Region.wanted
 split at h
 ·rename_i hg; cases h; simp [hg]
 ·rename_i j want hg
  simp only [hg]
  unfold yielded
  rw [C8, Array.getElem?_toList] at h
  split at h
  ·rename_i hd; cases h; rw [hd]; rfl
  ·rename_i t hd
   rw [hd]
   have r := re.slot t
   unfold ND at h
   split at h
   ·rename_i v hv
    cases h
    rw [hv] at r
    have r : a.tmps.getD t undef = .bool v := r
    have : a.tmps[t]? = some (.bool v) := by
     cases hx : a.tmps[t]? with
     | none => simp [Array.getD_eq_getD_getElem?, hx, undef] at r
     | some y => simp [Array.getD_eq_getD_getElem?, hx] at r; rw [r]
    simp [this]
   ·rename_i vs hv
    cases h
    rw [hv] at r
    obtain ⟨vs', r, _⟩ := r
    cases hx : a.tmps[t]? with
    | none => simp [hx]
    | some y => simp [Array.getD_eq_getD_getElem?, hx] at r; simp [hx, r]
   ·cases h
theorem LD {nt : Nat} {ι : Ren} {e : Env} {a : Act} {o : Oper} {f : FuncId} {args : List Value} (re : RE nt ι e a) (hok : Yx o.op = true) (hc : B6 e o.op = some (f, args)) (hf : U4 P f = true) (w : World) :
  ∃ args' : Array Value, (execOp a.eval o).run P w = .ok (.enter f args') w ∧ BJ (R ι) args args'.toList := by
 obtain ⟨dst, op, ty, pos, after, guard⟩ := o
 have hops : ∀ x ∈ op.operands.toList, GL x = true := List.all_eq_true.1 hok
 simp only at hc
 unfold B6 at hc
 split at hc
 ·rename_i fo xs ts
  split at hc
  ·rename_i g first caps hfo
   split at hc
   ·rename_i h0
    cases hc
    have hf0 : first = #[] := by simpa using h0
    subst hf0
    have r := re.op (hops fo (by simp [Op.operands, Call.operands]))
    rw [hfo] at r
    obtain ⟨_, caps', hv, hcaps⟩ := r
    have hargs := Xp re (l := xs.toList) fun x hx => hops x (by simp [Op.operands, Call.operands]; right; simpa using hx)
    refine ⟨xs.map a.eval ++ caps', ?_, ?_⟩
    ·unfold U4 at hf
     split at hf
     ·rename_i fn hfn
      rw [Bool.and_eq_true] at hf
      have hn : (fn.name == "runtime.NumGoroutine") = false := by simpa using hf.1
      have hn' : ¬ fn.name = "runtime.NumGoroutine" := by simpa using hn
      have hb : ¬ fn.body = none := by intro hbb; rw [hbb] at hf; simp at hf
      simp [execOp, resolve, hv, Deferred.ofValue, invoke, callFunc, hfn, hn', hb]
     ·cases hf
    ·rw [Array.toList_append, Array.toList_map]
     refine hargs.append (hcaps.imp fun x y ⟨q, c, h1, h2, h3, h4⟩ => ?_)
     rw [h1]; exact RS.toR ⟨c, h2, h3, h4⟩
   ·cases hc
  ·cases hc
 ·cases hc
def gate (g : Bool) (A B : Prop) : Prop := (g = true → A) ∧ (g = false → B)
def andThen (r : Option (Value × Heap)) (K : Value → Heap → Prop) : Prop := match r with | some (v, h) => K v h | none => False
def guarded (g : Option Bool) (A B : Prop) : Prop := match g with | some b => gate b A B | none => False
def H8 (P : Program) (W0 : World) (e : Env) (h : Heap) (o : Op) (K : Value → Heap → Prop) : Prop :=
 match B6 e o with
 | some (f, args) => WC P W0 f args h K
 | none => andThen (C4 P e h o) K
def YN (P : Program) (W0 : World) (ops : List Oper) : List Oper → Env → Heap → QT → Prop
 | [], e, h, Q => Q .normal e h
 | o :: r, e, h, Q => guarded (guardOf ops e o.guard) (H8 P W0 e h o.op fun v h' => YN P W0 ops r (e.putO o.dst v) h' Q) (YN P W0 ops r (e.putO o.dst undef) h Q)
def E1 (nt : Nat) (o : Oper) : Bool := Yx o.op && (match o.dst with | some d => decide (d < nt) | none => true)
theorem N7 {ι : Ren} : R ι undef undef := ⟨#[], rfl, .nil⟩
theorem ML {nt : Nat} {o : Oper} (h : E1 nt o = true) : Yx o.op = true ∧ ∀ d, o.dst = some d → d < nt := by
 unfold E1 at h
 rw [Bool.and_eq_true] at h
 refine ⟨h.1, fun d hd => ?_⟩
 have := h.2; rw [hd] at this; simpa using this
theorem bq {nt : Nat} {ι : Ren} {Q : QT} : ¬ LetsOut (G6 P W0 nt ι Q) := by
 rintro ⟨a, w, x, e', h', ι2, h1, _⟩; cases x <;> cases h1
theorem P7 {nt : Nat} {ops : Array Oper} {Q : QT} {ι ι' : Ren} (hle : ι.le ι') : ∀ (l : List Oper) (a : Act) (w : World), wpList P ops (G6 P W0 nt ι' Q) l a w → wpList P ops (G6 P W0 nt ι Q) l a w := by
 intro l
 have hQ : ∀ e a w, G6 P W0 nt ι' Q e a w → G6 P W0 nt ι Q e a w :=
  fun e a w ⟨x, e', h', ι2, h1, h2, h3⟩ => ⟨x, e', h', ι2, h1, Ren.le_trans hle h2, h3⟩
 induction l with
 | nil => intro a w hh; exact hQ _ _ _ hh
 | cons o l ih =>
  intro a w hh
  unfold wpList at hh ⊢
  split
  ·rename_i hw
   rw [if_pos hw] at hh
   rcases hh with hh | hh
   ·left
    unfold Oper.wp at hh ⊢
    generalize (execOp a.eval o).run P w = r at hh ⊢
    cases r with
    | ok n w' =>
     cases n <;> simp only [Oper.upon] at hh ⊢ <;> first
      | exact ih _ _ hh
      | exact Calls.mono hh (fun e w'' he => by cases e <;> first | exact ih _ _ he | exact hQ _ _ _ he | exact (bq he).elim)
      | exact Rows.mono hh (fun _ _ he => ih _ _ he)
      | exact hh
    | halt x w' => cases x <;> simp only [Oper.upon] at hh ⊢ <;> first | exact hQ _ _ _ hh | exact hh
   ·exact (bq hh.2).elim
  ·rename_i hw
   rw [if_neg hw] at hh
   exact ih _ _ hh
theorem Nd {nt : Nat} {ops : Array Oper} : ∀ (l : List Oper), (∀ o ∈ l, E1 nt o = true) → ∀ (e : Env) (h : Heap) (Q : QT) (ι : Ren) (a : Act) (w : World), YN P W0 ops.toList l e h Q →
    CU P W0 ι h w → RE nt ι e a → wpList P ops (G6 P W0 nt ι Q) l a w
  | [], _, e, h, Q, ι, a, w, hv, hs, hr => ⟨.normal, e, h, ι, rfl, Ren.le_refl _, hs, hr, hv⟩
  | o :: l, hok, e, h, Q, ι, a, w, hv, hs, hr => by
    have ⟨hop, hd⟩ := ML (hok o (by simp))
    have hok' : ∀ o ∈ l, E1 nt o = true := fun x hx => hok x (by simp [hx])
    have next : ∀ (ι' : Ren) (v v' : Value) (h' : Heap) (w' : World), ι.le ι' → CU P W0 ι' h' w' → R ι' v v' → YN P W0 ops.toList l (e.putO o.dst v) h' Q →
        wpList P ops (G6 P W0 nt ι Q) l (a.put o.dst v') w' := fun ι' v v' h' w' hle hs' hR hv' =>
      P7 hle l _ _ (Nd l hok' (e.putO o.dst v) h' Q ι' (a.put o.dst v') w' hv' hs' ((hr.mono hle).putO hd hR))
    simp only [YN, guarded] at hv
    split at hv
    · rename_i g hg
      have hw := Kc hr hg
      unfold wpList
      cases g with
      | false =>
        rw [if_neg (by rw [hw]; decide)]
        exact next ι undef undef h w (Ren.le_refl _) hs N7 (hv.2 rfl)
      | true =>
        replace hv := hv.1 rfl
        rw [if_pos hw]
        left
        unfold H8 at hv
        split at hv
        · rename_i f args hc
          obtain ⟨args', hrun, hargs⟩ := LD hr hop hc hv.1 w
          unfold Oper.wp
          rw [hrun]
          simp only [Oper.upon]
          exact (hv.2 ι w args' hs hargs).mono fun e w' ⟨v, v', h', ι', h1, h2, h3, h4, h5⟩ => by subst h1; exact next ι' v v' h' w' h2 h3 h4 h5
        · unfold andThen at hv
          split at hv
          · rename_i v h' ho
            obtain ⟨ι', w', v', hd', h2, h3, h4⟩ := Ni hs hr hop ho
            unfold Oper.wp
            rcases hd' with hd' | ⟨hd', rfl⟩
            · rw [hd']; simp only [Oper.upon]; exact next ι' v v' h' w' h2 h3 h4 hv
            · rw [hd']; simp only [Oper.upon]; exact next ι' v undef h' w' h2 h3 h4 hv
          · cases hv
    · cases hv
end Go.Ai
namespace Go.Ai
variable {P : Program} {W0 : World}
def Heap.le (h h' : Heap) : Prop := h.n ≤ h'.n ∧ ∀ b, b < h.n → h'.get b = h.get b
theorem Heap.le_refl (h : Heap) : h.le h := ⟨Nat.le_refl _, fun _ _ => rfl⟩
theorem Heap.le_trans {a b c : Heap} (h : a.le b) (h' : b.le c) : a.le c := ⟨Nat.le_trans h.1 h'.1, fun x hx => (h'.2 x (Nat.lt_of_lt_of_le hx h.1)).trans (h.2 x hx)⟩
theorem Heap.le_push (h : Heap) (k : KP) : h.le (h.push k) := ⟨by simp [Heap.push], fun b hb => by simp [Heap.push]; omega⟩
def gI (K : Env → Heap → Prop) (Q : QT) : QT
 | .normal, e, h => K e h
 | .ret, e, h => Q .ret e h
 | .exit j, e, h => Q (.exit j) e h
def Ia (id : Nat) (Q : QT) : QT
 | .normal, e, h => Q .normal e h
 | .ret, e, h => Q .ret e h
 | .exit j, e, h => if j = id then Q .normal e h else Q (.exit j) e h
def NM (I : Nat → Env → Heap → Prop) (n : Nat) (Q : QT) : QT
 | .normal, e, h => ∃ m, m < n ∧ I m e h
 | .ret, e, h => Q .ret e h
 | .exit j, e, h => Q (.exit j) e h
def Tr (v : Value) (A B : Prop) : Prop := match v with | .bool b => gate b A B | _ => False
abbrev DT := List Oper → Env → Heap → QT → Prop
def hole : Value := .chan none
def dR (ks : List Nat) (e : Env) : Env := fun t => if ks.contains t then e t else hole
def Rq : Option (List Nat) → Env → Env
 | none, e => e
 | some ks, e => dR ks e
structure ID where
 d : DT
 cp : Nat → Option (List Nat)
theorem TJ {nt : Nat} {ι : Ren} {e : Env} {a : Act} (o : Option (List Nat)) (r : RE nt ι e a) : RE nt ι (Rq o e) a := by
 cases o with
 | none => exact r
 | some ks =>
  refine ⟨r.defers, r.size, fun t => ?_⟩
  simp only [Rq, dR]
  split
  ·exact r.slot t
  ·exact trivial
def Qx (P : Program) (W0 : World) (D : ID) : Code → Env → Heap → QT → Prop
 | .skip, e, h, Q => Q .normal e h
 | .region id ops false, e, h, Q => YN P W0 ops.toList ops.toList (Rq (D.cp id) e) h Q
 | .region id ops true, e, h, Q => D.d ops.toList (Rq (D.cp id) e) h Q
 | .seq a b, e, h, Q => Qx P W0 D a e h (gI (fun e h => Qx P W0 D b e h Q) Q)
 | .cond c t f, e, h, Q => Tr (e.op c) (Qx P W0 D t e h Q) (Qx P W0 D f e h Q)
 | .block id b, e, h, Q => Qx P W0 D b e h (Ia id Q)
 | .loop b, e, h, Q => ∃ (I : Nat → Env → Heap → Prop) (n : Nat), I n e h ∧ ∀ n e h, I n e h → Qx P W0 D b e h (NM I n Q)
 | .exit id, e, h, Q => Q (.exit id) e h
 | .ret, e, h, Q => Q .ret e h
 | _, _, _, _ => False
def Bc (nt : Nat) (okD : List Oper → Bool) : Code → Bool
 | .region _ ops d => ops.toList.all (E1 nt) && (!d || okD ops.toList)
 | .seq a b => Bc nt okD a && Bc nt okD b
 | .cond c t f => GL c && Bc nt okD t && Bc nt okD f
 | .block _ b => Bc nt okD b
 | .loop b => Bc nt okD b
 | .skip | .exit _ | .ret => true
 | _ => false
def MX (P : Program) (W0 : World) (nt : Nat) (D : DT) (okD : List Oper → Bool) : Prop :=
 ∀ (id : Nat) (ops : Array Oper) (e : Env) (h : Heap) (Q : QT), (∀ o ∈ ops.toList, E1 nt o = true) → okD ops.toList = true → D ops.toList e h Q → W P W0 nt (.region id ops true) e h Q
theorem cW {nt : Nat} {b : Code} {e : Env} {h : Heap} {Q : QT} (I : Nat → Env → Heap → Prop) (n : Nat) (h0 : I n e h)
  (hr : ∀ n e h, I n e h → W P W0 nt b e h (NM I n Q)) : W P W0 nt (.loop b) e h Q := by
 intro ι a w hs hre
 have key : ∀ (n : Nat) (e : Env) (h : Heap) (a : Act) (w : World) (ι1 : Ren), ι.le ι1 → I n e h → CU P W0 ι1 h w → RE nt ι1 e a → Code.rounds P b (G6 P W0 nt ι Q) (n + 1) a w := by
  intro n
  induction n using Nat.strongRecOn with
  | _ n ih =>
   intro e h a w ι1 hle hI hs hre
   rw [rounds_succ]
   refine wp_mono (hr n e h hI ι1 a w hs hre) ?_
   rintro e1 a' w' ⟨x, e', h', ι', rfl, h2, h3, h4, h5⟩
   cases x with
   | normal =>
    obtain ⟨m, hm, hI'⟩ := h5
    have := ih m hm e' h' a' w' ι' (Ren.le_trans hle h2) hI' h3 h4
    have up : ∀ (k : Nat) (a : Act) (w : World), Code.rounds P b (G6 P W0 nt ι Q) k a w → ∀ j, Code.rounds P b (G6 P W0 nt ι Q) (k + j) a w := by
     intro k
     induction k with
     | zero => intro a w hh; exact hh.elim
     | succ k ihk =>
      intro a w hh j
      rw [show k + 1 + j = (k + j) + 1 by omega, rounds_succ]
      rw [rounds_succ] at hh
      refine wp_mono hh fun e a w he => ?_
      cases e <;> first | exact ihk _ _ he j | exact he
    have := up _ _ _ this (n - (m + 1))
    rwa [show m + 1 + (n - (m + 1)) = n by omega] at this
   | ret => exact ⟨.ret, e', h', ι', rfl, Ren.le_trans hle h2, h3, h4, h5⟩
   | exit j => exact ⟨.exit j, e', h', ι', rfl, Ren.le_trans hle h2, h3, h4, h5⟩
 exact wp_loop_rounds _ (key n e h a w ι (Ren.le_refl _) h0 hs hre)
theorem Dl {nt : Nat} {D : ID} {okD : List Oper → Bool} (hD : MX P W0 nt D.d okD) : ∀ (c : Code), Bc nt okD c = true → ∀ (e : Env) (h : Heap) (Q : QT), Qx P W0 D c e h Q → W P W0 nt c e h Q
 | .skip, _, e, h, Q, hv => fun ι a w hs hr => wp_skip ⟨.normal, e, h, ι, rfl, Ren.le_refl _, hs, hr, hv⟩
 | .region id ops false, hok, e, h, Q, hv => fun ι a w hs hr => by
  simp only [Bc, Bool.and_eq_true] at hok
  exact wp_region_list (Nd ops.toList (List.all_eq_true.1 hok.1) _ h Q ι a w hv hs (TJ _ hr))
 | .region id ops true, hok, e, h, Q, hv => fun ι a w hs hr => by
  simp only [Bc, Bool.and_eq_true] at hok
  exact hD id ops _ h Q (List.all_eq_true.1 hok.1) (by simpa using hok.2) hv ι a w hs (TJ _ hr)
 | .seq c d, hok, e, h, Q, hv => fun ι a w hs hr => by
  simp only [Bc, Bool.and_eq_true] at hok
  refine wp_seq (wp_mono (Dl hD c hok.1 e h _ hv ι a w hs hr) ?_)
  rintro e1 a' w' ⟨x, e', h', ι', rfl, h2, h3, h4, h5⟩
  cases x with
  | normal => exact wp_mono (Dl hD d hok.2 e' h' Q h5 ι' a' w' h3 h4) fun e a w ⟨x, s2, s3, ι2, g1, g2, g3⟩ => ⟨x, s2, s3, ι2, g1, Ren.le_trans h2 g2, g3⟩
  | ret => exact ⟨.ret, e', h', ι', rfl, h2, h3, h4, h5⟩
  | exit j => exact ⟨.exit j, e', h', ι', rfl, h2, h3, h4, h5⟩
 | .cond c t f, hok, e, h, Q, hv => fun ι a w hs hr => by
  simp only [Bc, Bool.and_eq_true] at hok
  simp only [Qx, Tr] at hv
  split at hv
  ·rename_i b hb
   have r := hr.op hok.1.1
   rw [hb] at r
   have r : a.eval c = .bool b := r
   cases b with
   | true => exact wp_cond_true r (Dl hD t hok.1.2 e h Q (hv.1 rfl) ι a w hs hr)
   | false => exact wp_cond_false r (Dl hD f hok.2 e h Q (hv.2 rfl) ι a w hs hr)
  ·cases hv
 | .block id b, hok, e, h, Q, hv => fun ι a w hs hr => by
  simp only [Bc] at hok
  refine wp_block (wp_mono (Dl hD b hok e h _ hv ι a w hs hr) ?_)
  rintro e1 a' w' ⟨x, e', h', ι', rfl, h2, h3, h4, h5⟩
  cases x with
  | normal => exact ⟨.normal, e', h', ι', rfl, h2, h3, h4, h5⟩
  | ret => exact ⟨.ret, e', h', ι', rfl, h2, h3, h4, h5⟩
  | exit j =>
   simp only [Ex.of, Exit.inBlock, Ia] at h5 ⊢
   split at h5
   ·rename_i hj; rw [if_pos hj]; exact ⟨.normal, e', h', ι', rfl, h2, h3, h4, h5⟩
   ·rename_i hj; rw [if_neg hj]; exact ⟨.exit j, e', h', ι', rfl, h2, h3, h4, h5⟩
 | .loop b, hok, e, h, Q, hv => by
  simp only [Bc] at hok
  obtain ⟨I, n, h0, hr⟩ := hv
  exact cW I n h0 fun n e h hI => Dl hD b hok e h _ (hr n e h hI)
 | .exit id, _, e, h, Q, hv => fun ι a w hs hr => wp_exit ⟨.exit id, e, h, ι, rfl, Ren.le_refl _, hs, hr, hv⟩
 | .ret, _, e, h, Q, hv => fun ι a w hs hr => wp_ret ⟨.ret, e, h, ι, rfl, Ren.le_refl _, hs, hr, hv⟩
 | .rangeFunc .., hok, _, _, _, _ => by simp [Bc] at hok
 | .scope .., hok, _, _, _, _ => by simp [Bc] at hok
 | .label .., hok, _, _, _, _ => by simp [Bc] at hok
 | .goto .., hok, _, _, _, _ => by simp [Bc] at hok
 | .refuse .., hok, _, _, _, _ => by simp [Bc] at hok
def IA (P : Program) (h : Heap) (e : Env) : List ResultVar → Option (List Value)
 | [] => some []
 | .tmp t :: r => match IA P h e r with
  | some l => some (e t :: l)
  | none => none
 | .cell a t :: r => match Gn P h t (e a), IA P h e r with
  | some v, some l => some (v :: l)
  | _, _ => none
def QV : Value → Bool
 | .tuple _ => true
 | _ => false
def Z1 (l : List Value) : Option Value := match l with
 | [v] => some v
 | l => if l.all (fun v => !QV v) = true then some (.tuple l.toArray) else none
def DE (args : List Value) : Env := fun t => args.getD t undef
theorem BJ.getD {r : Value → Value → Prop} {l m : List Value} (h : BJ r l m) {d : Value} (hd : r d d) (t : Nat) : r (l.getD t d) (m.getD t d) := by
 simp only [List.getD_eq_getElem?_getD]
 cases hx : l[t]? with
 | none =>
  have : m[t]? = none := by rw [List.getElem?_eq_none_iff] at hx ⊢; rw [← h.length]; exact hx
  simp [this, hd]
 | some x => obtain ⟨y, hy, r⟩ := h.get hx; simp [hy, r]
def Mo (tmps : Array Value) : ResultVar → Sem Value
 | .tmp t => pure (tmps.getD t undef)
 | .cell b t => do loadVar t (← asAddr (tmps.getD b undef))
theorem Sq (fn : Func) (tmps : Array Value) : results fn tmps = (do let vs ← fn.results.mapM (Mo tmps); pure (if h : vs.size = 1 then vs[0] else .tuple vs)) := by
 unfold results
 congr 1
theorem IN {nt : Nat} {ι : Ren} {e : Env} {a : Act} {h : Heap} {w : World} (s : CU P W0 ι h w) (re : RE nt ι e a) : ∀ (rs : List ResultVar) (l : List Value), IA P h e rs = some l →
  ∃ l' : List Value, (rs.mapM (Mo a.tmps)).run P w = .ok l' w ∧ BJ (R ι) l l'
 | [], l, hl => by simp [IA] at hl; subst hl; exact ⟨[], by simp, .nil⟩
 | .tmp t :: rs, l, hl => by
  simp only [IA] at hl
  split at hl
  ·rename_i l0 h0
   cases hl
   obtain ⟨l', h1, h2⟩ := IN s re rs l0 h0
   exact ⟨_ :: l', by rw [List.mapM_cons]; simp only [Mo, Sem.run_bind, Sem.run_pure, Result.andThen_ok]; rw [h1]; rfl, .cons (re.slot t) h2⟩
  ·cases hl
 | .cell b t :: rs, l, hl => by
  simp only [IA] at hl
  split at hl
  ·rename_i v l0 hv h0
   cases hl
   obtain ⟨l', h1, h2⟩ := IN s re rs l0 h0
   obtain ⟨v', h3, h4⟩ := LK s hv (re.slot b)
   refine ⟨v' :: l', ?_, .cons h4 h2⟩
   have hp : ∃ q, a.tmps.getD b undef = .pointer (some q) := by
    have r := re.slot b
    unfold Gn at hv
    split at hv
    ·rename_i q hq; rw [hq] at r; obtain ⟨c, _, _, hc⟩ := r; exact ⟨_, hc⟩
    ·cases hv
   obtain ⟨q, hq⟩ := hp
   rw [hq] at h3
   rw [List.mapM_cons]
   have h5 : (Mo a.tmps (.cell b t)).run P w = .ok v' w := by
    simp only [Mo, hq, asAddr, Sem.run_bind, Sem.run_pure, Result.andThen_ok]
    simp only [Instr.loadAt, Instr.sureAddr, Sem.run_bind, Sem.run_pure, Result.andThen_ok] at h3
    exact h3
   simp only [Sem.run_bind, Sem.run_pure, h5, Result.andThen_ok]
   rw [h1]; rfl
  ·cases hl
theorem fC {ι : Ren} {x y : Value} (h : QV x = false) (r : R ι x y) : RG ι x y := by
 unfold R at r; split at r
 ·simp [QV] at h
 ·exact r
theorem Tu {ι : Ren} : ∀ {l m : List Value}, (l.all fun v => !QV v) = true → BJ (R ι) l m → BJ (RG ι) l m
 | _, _, _, .nil => .nil
 | _, _, h, .cons a b => by
  rw [List.all_cons, Bool.and_eq_true] at h
  exact .cons (fC (by simpa using h.1) a) (Tu h.2 b)
def Rt (r : Option (List Value)) (h : Heap) (Q : Value → Heap → Prop) : Prop := match r with
 | some l => match Z1 l with
  | some v => Q v h
  | none => False
 | none => False
def ends (P : Program) (rs : List ResultVar) (Q : Value → Heap → Prop) : QT
 | .exit _, _, _ => False
 | .normal, e, h => Rt (IA P h e rs) h Q
 | .ret, e, h => Rt (IA P h e rs) h Q
theorem Lk {D : ID} {okD : List Oper → Bool} {f : FuncId} {fn : Func} {c : Code} (hD : MX P W0 fn.ntmps D.d okD) (hf : P.funcs[f]? = some fn) (hb : fn.body = some c)
    (hn : (fn.name != "runtime.NumGoroutine") = true) (hok : Bc fn.ntmps okD c = true) {args : List Value} {h : Heap} (hlen : args.length ≤ fn.ntmps) {Q : Value → Heap → Prop}
    (hv : Qx P W0 D c (DE args) h (ends P fn.results.toList Q)) : WC P W0 f args h Q := by
  refine ⟨by simp [U4, hf, hb, hn], fun ι w args' hs ha => calls_of_wp hf hb ?_⟩
  have hl := ha.length
  have hsz : args'.size = args.length := by rw [hl]; simp
  have hre : RE fn.ntmps ι (DE args) { tmps := args' ++ Array.replicate (fn.ntmps - args'.size) undef, defers := [] } := by
    refine ⟨rfl, by simp; omega, fun t => ?_⟩
    have h1 := ha.getD (N7 (ι := ι)) t
    unfold DE
    have h2 : (args' ++ Array.replicate (fn.ntmps - args'.size) undef).getD t undef = args'.toList.getD t undef := by
      simp only [Array.getD_eq_getD_getElem?, List.getD_eq_getElem?_getD, Array.getElem?_toList, Array.getElem?_append, Array.getElem?_replicate]
      split
      · rfl
      · rename_i h3
        rw [Array.getElem?_eq_none (by omega)]
        split <;> rfl
    rw [h2]; exact h1
  refine wp_mono (Dl hD c hok (DE args) h _ hv ι _ w hs hre) ?_
  rintro e1 a' w' ⟨x, e', h', ι', rfl, h2, h3, h4, h5⟩
  have fin : Rt (IA P h' e' fn.results.toList) h' Q →
      a'.defers = [] ∧ ∃ v, (results fn a'.tmps).run P w' = .ok v w' ∧ ∃ v0 v' h' ι'', Ending.returned v = .returned v' ∧ ι.le ι'' ∧ CU P W0 ι'' h' w' ∧ R ι'' v0 v' ∧ Q v0 h' := by
    intro h5
    refine ⟨h4.defers, ?_⟩
    unfold Rt at h5
    split at h5
    · rename_i l hl
      split at h5
      · rename_i v hv
        obtain ⟨l', g1, g2⟩ := IN h3 h4 fn.results.toList l hl
        have hr : (results fn a'.tmps).run P w' = .ok (if h : l'.toArray.size = 1 then l'.toArray[0] else .tuple l'.toArray) w' := by
          rw [Sq, Array.mapM_eq_mapM_toList]
          simp only [Sem.run_bind, Sem.run_map, Sem.run_pure]
          rw [g1]; rfl
        refine ⟨_, hr, v, _, h', ι', rfl, h2, h3, ?_, h5⟩
        unfold Z1 at hv
        split at hv
        · cases hv
          match l', g2 with
          | [y], .cons r .nil => simpa using r
        · rename_i hne
          split at hv
          · rename_i ht
            cases hv
            have : l'.toArray.size ≠ 1 := by
              intro he
              have : l.length = 1 := by rw [g2.length]; simpa using he
              match l, this with
              | [x], _ => exact hne x rfl
            rw [dif_neg this]
            exact ⟨_, rfl, by simpa using Tu ht g2⟩
          · cases hv
      · cases h5
    · cases h5
  cases x with
  | normal => exact fin h5
  | ret => exact fin h5
  | exit j => exact h5.elim
end Go.Ai
namespace Go.Ai
inductive Ar {α : Type} (a : α) : Type
 | mk
abbrev KT := Value → Heap → Prop
def look (e : Env) (t : Nat) (_ : Ar e) : Value := e t
def C2 (e : Env) (x : Operand) (_ : Ar e) : Value := e.op x
def Co (e : Env) (l : List Operand) (_ : Ar e) : List Value := l.map e.op
def hg (h : Heap) (b : Nat) (_ : Ar h) : Option KP := h.get b
def hn (h : Heap) (_ : Ar h) : Nat := h.n
section
variable (P : Program) (W0 : World) (D : ID)
def cz (c : Code) (e : Env) (h : Heap) (Q : QT) (_ : Ar (c, e, h, Q, D)) : Prop := Qx P W0 D c e h Q
def qz (Q : QT) (x : Ex) (e : Env) (h : Heap) (_ : Ar (Q, e, h)) : Prop := Q x e h
def oz (ops l : List Oper) (e : Env) (h : Heap) (Q : QT) (_ : Ar (ops, l, e, h, Q)) : Prop := YN P W0 ops l e h Q
def xz (o : Op) (e : Env) (h : Heap) (K : KT) (_ : Ar (o, e, h, K)) : Prop := H8 P W0 e h o K
def wz (f : FuncId) (a : List Value) (h : Heap) (K : KT) (_ : Ar (h, K)) : Prop := WC P W0 f a h K
def lz (b : Code) (e : Env) (h : Heap) (Q : QT) (_ : Ar (b, e, h, Q, D)) : Prop := Qx P W0 D (.loop b) e h Q
def bY (l : List Oper) (e : Env) (h : Heap) (Q : QT) (_ : Ar (l, e, h, Q, D)) : Prop := D.d l e h Q
def rz (e : Env) (h : Heap) (rs : List ResultVar) (_ : Ar (e, h)) : Option (List Value) := IA P h e rs
def Om (b : Code) (Q : QT) : QT := gI (fun e h => Qx P W0 D b e h Q) Q
def oK (ops r : List Oper) (d : Option Tmp) (e : Env) (Q : QT) : KT := fun v h' => YN P W0 ops r (e.putO d v) h' Q
end
def kz (K : KT) (v : Value) (h : Heap) (_ : Ar (K, h)) : Prop := K v h
def bz (o : Option Value) (h : Heap) (K : KT) (_ : Ar (h, K)) : Prop := match o with | some v => K v h | none => False
def az (o : Option (Value × Heap)) (K : KT) (_ : Ar K) : Prop := andThen o K
def sz (o : Option Heap) (K : KT) (_ : Ar K) : Prop := match o with | some h' => K undef h' | none => False
def gz (b : Bool) (A B : Prop) (_ : Ar (A, B)) : Prop := gate b A B
def gd (b : Option Bool) (A B : Prop) (_ : Ar (A, B)) : Prop := guarded b A B
def dz (v : Value) (A B : Prop) (_ : Ar (A, B)) : Prop := Tr v A B
def ez (r : Option (List Value)) (h : Heap) (K : KT) (_ : Ar (h, K)) : Prop := Rt r h K
def nz (cs : Option (List Value)) (n : Option Nat) (h : Heap) (K : KT) (_ : Ar (h, K)) : Prop := match cs, n with | some cs, some n => K (.pointer (some ⟨h.n, 0, none⟩)) (h.push ⟨true, n, cs⟩) | _, _ => False
def bm (r : Option (List Value)) (z n : Nat) (h : Heap) (K : KT) (_ : Ar (h, K)) : Prop := match r with | some l => K (.slice (some ⟨h.n, 0, none⟩) n n) (h.push ⟨true, z, l⟩) | none => False
def bQ (P : Program) (W0 : World) (v : Value) (xs : List Value) (h : Heap) (K : KT) (_ : Ar (h, K)) : Prop := match v with | .func (.func g) first caps => if first.size = 0 then WC P W0 g (xs ++ caps.toList) h K else False | _ => False
variable {P : Program} {W0 : World} {D : ID} {e : Env} {h : Heap} {Q : QT} {K : KT}
def pk (b : Bool) (v : Value) (e : Env) (t : Nat) (_ : Ar (v, e)) : Value := match b with | true => v | false => e t
theorem df {v : Value} {t : Nat} : pk true v e t .mk = v := rfl
theorem dh {v : Value} {t : Nat} : pk false v e t .mk = look e t .mk := rfl
theorem HI {d t : Nat} {v : Value} : look (e.put d v) t .mk = pk (t == d) v e t .mk := by
 simp only [look, Env.put, pk]; by_cases ht : t = d
 ·simp [ht]
 ·have : (t == d) = false := by simp [ht]
  rw [if_neg ht, this]
theorem KF {d t : Nat} {v : Value} : look (e.putO (some d) v) t .mk = pk (t == d) v e t .mk := HI
def hk (b : Bool) (o : Option KP) (h : Heap) (c : Nat) (_ : Ar (o, h)) : Option KP := match b with | true => o | false => h.get c
theorem YJ {o : Option KP} {c : Nat} : hk true o h c .mk = o := rfl
theorem FB {o : Option KP} {c : Nat} : hk false o h c .mk = hg h c .mk := rfl
theorem XB {v : Value} {l : List Value} : look (DE (v :: l)) 0 .mk = v := rfl
theorem Xb {v : Value} {l : List Value} {n : Nat} : look (DE (v :: l)) (n + 1) .mk = look (DE l) n .mk := by simp [DE, look]
theorem Rl {t : Nat} : C2 e (.tmp t) .mk = look e t .mk := rfl
theorem MK {v : Value} : C2 e (.const v) .mk = v := rfl
theorem Jo : Co e [] .mk = [] := rfl
theorem IM {x : Operand} {l : List Operand} : Co e (x :: l) .mk = C2 e x .mk :: Co e l .mk := rfl
theorem Lf {b c : Nat} {o : Option KP} : (if b = c then o else h.get b) = hk (b == c) o h b .mk := by
 unfold hk; by_cases hb : b = c
 ·simp [hb]
 ·have : (b == c) = false := by simp [hb]
  rw [if_neg hb, this]
theorem Ap {k : KP} {b : Nat} : hg (h.push k) b .mk = hk (b == hn h .mk) (some k) h b .mk := Lf
theorem AB {k : KP} : hn (h.push k) .mk = hn h .mk + 1 := rfl
theorem Q3 : cz P W0 D .skip e h Q .mk = qz Q .normal e h .mk := rfl
theorem YR : cz P W0 D .ret e h Q .mk = qz Q .ret e h .mk := rfl
theorem Sl {id : Nat} : cz P W0 D (.exit id) e h Q .mk = qz Q (.exit id) e h .mk := rfl
theorem W9 {a b : Code} : cz P W0 D (.seq a b) e h Q .mk = cz P W0 D a e h (Om P W0 D b Q) .mk := rfl
theorem Ow {id : Nat} {b : Code} : cz P W0 D (.block id b) e h Q .mk = cz P W0 D b e h (Ia id Q) .mk := rfl
theorem CV {c : Operand} {a b : Code} : cz P W0 D (.cond c a b) e h Q .mk = dz (C2 e c .mk) (cz P W0 D a e h Q .mk) (cz P W0 D b e h Q .mk) .mk := rfl
theorem SP {b : Code} : cz P W0 D (.loop b) e h Q .mk = lz P W0 D b e h Q .mk := rfl
def ctz (F : Env → Prop) (ks : List Nat) (e E : Env) (_ : Ar (F, e, E)) : Prop := F fun t => if ks.contains t then e t else E t
def dZ (F : Env → Prop) (ks : List Nat) (e : Env) (k : Nat) (v : Value) (E : Env) (_ : Ar (F, e, E)) : Prop := F fun t => if ks.contains t then e t else E.put k v t
def Xg (F : Env → Prop) (o : Option (List Nat)) (e : Env) (_ : Ar (F, e)) : Prop := F (Rq o e)
def gp : Env := fun _ => hole
def fz (F : Env → Prop) (e : Env) (_ : Ar (F, e)) : Prop := F e
theorem Oc {F : Env → Prop} {e E : Env} : ctz F [] e E .mk = fz F E .mk := by simp [ctz, fz]
theorem Mg {F : Env → Prop} {e E : Env} {k : Nat} {ks : List Nat} : ctz F (k :: ks) e E .mk = dZ F ks e k (look e k .mk) E .mk := by
 simp only [ctz, dZ, look]
 congr 1
 funext t
 by_cases ht : t = k
 ·subst ht; simp [Env.put]
 ·simp [Env.put, ht]
theorem ON {F : Env → Prop} {e E : Env} {k : Nat} {v : Value} {ks : List Nat} : dZ F ks e k v E .mk = ctz F ks e (E.put k v) .mk := rfl
theorem Lt {F : Env → Prop} {e : Env} {ks : List Nat} : Xg F (some ks) e .mk = ctz F ks e gp .mk := rfl
def P6 (D : ID) (id : Nat) (_ : Ar D) : Option (List Nat) := D.cp id
def SV (l : List (List Nat)) (id : Nat) : Option (List Nat) := l[id]?
theorem cQ {d : DT} {a : List Nat} {l : List (List Nat)} : P6 ⟨d, SV (a :: l)⟩ 0 .mk = some a := rfl
theorem da {d : DT} {a : List Nat} {l : List (List Nat)} {n : Nat} : P6 ⟨d, SV (a :: l)⟩ (n + 1) .mk = P6 ⟨d, SV l⟩ n .mk := by simp [P6, SV]
def eB (P : Program) (W0 : World) (l : List Oper) (h : Heap) (Q : QT) : Env → Prop := fun e => YN P W0 l l e h Q
def dB (D : ID) (l : List Oper) (h : Heap) (Q : QT) : Env → Prop := fun e => D.d l e h Q
theorem Me {id : Nat} {l : List Oper} : cz P W0 D (.region id l.toArray false) e h Q .mk = Xg (eB P W0 l h Q) (P6 D id .mk) e .mk := by simp [cz, Qx, Xg, eB, P6]
theorem J6 {id : Nat} {l : List Oper} : cz P W0 D (.region id l.toArray true) e h Q .mk = Xg (dB D l h Q) (P6 D id .mk) e .mk := by simp [cz, Qx, Xg, dB, P6]
theorem XC {l : List Oper} : fz (eB P W0 l h Q) e .mk = oz P W0 l l e h Q .mk := rfl
theorem YT {l : List Oper} : fz (dB D l h Q) e .mk = bY D l e h Q .mk := rfl
theorem RX {b : Bool} {A B : Prop} : dz (.bool b) A B .mk = gz b A B .mk := rfl
theorem Rx {A B : Prop} : gz true A B .mk = A := by simp [gz, gate]
theorem O8 {A B : Prop} : gz false A B .mk = B := by simp [gz, gate]
theorem SR {b : Code} : qz (Om P W0 D b Q) .normal e h .mk = cz P W0 D b e h Q .mk := rfl
theorem S4 {b : Code} : qz (Om P W0 D b Q) .ret e h .mk = qz Q .ret e h .mk := rfl
theorem SH {b : Code} {j : Nat} : qz (Om P W0 D b Q) (.exit j) e h .mk = qz Q (.exit j) e h .mk := rfl
theorem LZ {id : Nat} : qz (Ia id Q) .normal e h .mk = qz Q .normal e h .mk := rfl
theorem MF {id : Nat} : qz (Ia id Q) .ret e h .mk = qz Q .ret e h .mk := rfl
theorem LV {id j : Nat} : qz (Ia id Q) (.exit j) e h .mk = if j = id then qz Q .normal e h .mk else qz Q (.exit j) e h .mk := rfl
def gU (I : Nat → Env → Heap → Prop) (n : Nat) (e : Env) (h : Heap) (_ : Ar (I, n, e, h)) : Prop := ∃ m, m < n ∧ I m e h
theorem OV {I : Nat → Env → Heap → Prop} {n : Nat} : qz (NM I n Q) .normal e h .mk = gU I n e h .mk := rfl
theorem O9 {I : Nat → Env → Heap → Prop} {n : Nat} : qz (NM I n Q) .ret e h .mk = qz Q .ret e h .mk := rfl
theorem OZ {I : Nat → Env → Heap → Prop} {n j : Nat} : qz (NM I n Q) (.exit j) e h .mk = qz Q (.exit j) e h .mk := rfl
theorem R3 {rs : List ResultVar} : qz (ends P rs K) .ret e h .mk = ez (rz P e h rs .mk) h K .mk := rfl
theorem Ss : rz P e h [] .mk = some [] := rfl
def KQ (v : Option Value) (l : Option (List Value)) : Option (List Value) := match v, l with | some v, some l => some (v :: l) | _, _ => none
theorem Ig {v : Value} {l : List Value} : KQ (some v) (some l) = some (v :: l) := rfl
theorem Rh {t : Nat} {r : List ResultVar} : rz P e h (.tmp t :: r) .mk = KQ (some (look e t .mk)) (rz P e h r .mk) := by simp only [rz, IA, KQ, look]; cases IA P h e r <;> rfl
def FF (P : Program) (h : Heap) (t : TypeId) (v : Value) (_ : Ar h) : Option Value := Gn P h t v
theorem gx {v : Value} : ez (some [v]) h K .mk = kz K v h .mk := rfl
theorem ko {ops r : List Oper} {d : Option Tmp} {v : Value} : kz (oK P W0 ops r d e Q) v h .mk = oz P W0 ops r (e.putO d v) h Q .mk := rfl
theorem Q4 {v : Value} : bz (some v) h K .mk = kz K v h .mk := rfl
theorem Sm {v : Value} {h' : Heap} : az (some (v, h')) K .mk = kz K v h' .mk := rfl
theorem Rg {cs : List Value} {n : Nat} : nz (some cs) (some n) h K .mk = kz K (.pointer (some ⟨hn h .mk, 0, none⟩)) (h.push ⟨true, n, cs⟩) .mk := rfl
theorem N6 {l : List Value} {z n : Nat} : bm (some l) z n h K .mk = kz K (.slice (some ⟨hn h .mk, 0, none⟩) n n) (h.push ⟨true, z, l⟩) .mk := rfl
theorem XP {ops : List Oper} : oz P W0 ops [] e h Q .mk = qz Q .normal e h .mk := rfl
theorem RZ {ops r : List Oper} {d : Option Tmp} {o : Op} {t : TypeId} {p : String} {a : Array Edge} :
  oz P W0 ops (⟨d, o, t, p, a, none⟩ :: r) e h Q .mk = xz P W0 o e h (oK P W0 ops r d e Q) .mk := by
 show gate true (H8 P W0 e h o (oK P W0 ops r d e Q)) _ = H8 P W0 e h o (oK P W0 ops r d e Q)
 simp only [gate]; exact propext ⟨fun hh => hh.1 trivial, fun hh => ⟨fun _ => hh, fun hf => absurd hf (by simp)⟩⟩
theorem N5 {ops r : List Oper} {d : Option Tmp} {o : Op} {t : TypeId} {p : String} {a : Array Edge} {j : Nat} {b : Bool} :
    oz P W0 ops (⟨d, o, t, p, a, some (j, b)⟩ :: r) e h Q .mk =
      gd (guardOf ops e (some (j, b))) (xz P W0 o e h (oK P W0 ops r d e Q) .mk) (oz P W0 ops r (e.putO d undef) h Q .mk) .mk := rfl
def V4 (l : List Oper) (j : Nat) (_ : Ar l) : Option Nat := Ba l j
def fT (d : Option Nat) (b : Bool) (e : Env) (_ : Ar e) : Option Bool := match d with | none => some false | some t => ND b (e t)
theorem LP {ops : List Oper} {j : Nat} {b : Bool} : guardOf ops e (some (j, b)) = fT (V4 ops j .mk) b e .mk := rfl
theorem LY {t : Nat} {b : Bool} : fT (some t) b e .mk = ND b (look e t .mk) := rfl
theorem fP {o : Oper} {l : List Oper} : V4 (o :: l) 0 .mk = o.dst := rfl
theorem fq {o : Oper} {l : List Oper} {n : Nat} : V4 (o :: l) (n + 1) .mk = V4 l n .mk := rfl
theorem O4 {b : Bool} {A B : Prop} : gd (some b) A B .mk = gz b A B .mk := rfl
theorem LU {w b : Bool} : ND w (.bool b) = some (b == w) := rfl
theorem eV {b : Bool} : (b == true) = b := by simp
theorem cO {b : Bool} : (b == false) = !b := by cases b <;> rfl
theorem R5 {x : Operand} : xz P W0 (.move x) e h K .mk = kz K (C2 e x .mk) h .mk := rfl
theorem MR {x : Operand} : xz P W0 (.assign x) e h K .mk = kz K (C2 e x .mk) h .mk := rfl
def HS (c a b : Value) : Option Value := match c with | .bool true => some a | .bool false => some b | _ => none
theorem Sa {c x y : Operand} : xz P W0 (.pick c x y) e h K .mk = bz (HS (C2 e c .mk) (C2 e x .mk) (C2 e y .mk)) h K .mk := by
 simp only [xz, H8, B6, C4, andThen, bz, HS, C2]; cases e.op c <;> simp; rename_i b; cases b <;> simp
theorem S9 {a b : Value} : HS (.bool true) a b = some a := rfl
theorem Si {a b : Value} : HS (.bool false) a b = some b := rfl
def pkB (c a b : Bool) : Bool := match c with | true => a | false => b
theorem fA {a b : Bool} : pkB true a b = a := rfl
theorem eZ {a b : Bool} : pkB false a b = b := rfl
theorem Su {c a b : Bool} : HS (.bool c) (.bool a) (.bool b) = some (.bool (pkB c a b)) := by cases c <;> rfl
theorem X6 {t : TypeId} {x : Operand} : xz P W0 (.box t x) e h K .mk = nz (Ds (C2 e x .mk)) (sz? P t) h K .mk := by
 simp only [xz, H8, B6, C4, andThen, nz, C2]; cases Ds (e.op x) <;> cases sz? P t <;> simp [SW]
theorem Sb {t : TypeId} {x : Operand} : xz P W0 (.load t x) e h K .mk = bz (FF P h t (C2 e x .mk) .mk) h K .mk := by
 simp only [xz, H8, B6, C4, bz, FF, C2]; cases Gn P h t (e.op x) <;> rfl
theorem Xh {op : BinOp} {t u : TypeId} {x y : Operand} : xz P W0 (.binOp op t x y u) e h K .mk = bz (binV P op t (C2 e x .mk) (C2 e y .mk)) h K .mk := by
 simp only [xz, H8, B6, C4, bz, C2]; cases binV P op t (e.op x) (e.op y) <;> rfl
theorem eU {op : UnOp} {t : TypeId} {x : Operand} : xz P W0 (.unOp op t x) e h K .mk = bz (unV op (C2 e x .mk)) h K .mk := by
 simp only [xz, H8, B6, C4, bz, C2]; cases unV op (e.op x) <;> rfl
theorem G2 {t : TypeId} {x y : Operand} : xz P W0 (.indexAddr t x y) e h K .mk = bz (indexAddrV P t (C2 e x .mk) (C2 e y .mk)) h K .mk := by
 simp only [xz, H8, B6, C4, bz, C2]; cases indexAddrV P t (e.op x) (e.op y) <;> rfl
def JN (p : Option (Nat × Nat)) (vs : Option (List Value)) (cs : List Value) : Option (List Value) := match p, vs with | some (off, n), some vs => if vs.length = n then Qy cs off vs else none | _, _ => none
def Eh (place : Nat → Option (Nat × Nat)) (e : Env) (l : List (Nat × Operand)) (cs : Option (List Value)) (_ : Ar (place, e, l)) : Option (List Value) := match cs with | some cs => Aw place e l cs | none => none
theorem J5 {p : Nat → Option (Nat × Nat)} {cs : List Value} : Eh p e [] (some cs) .mk = some cs := rfl
theorem Ir {p : Nat → Option (Nat × Nat)} {i : Nat} {x : Operand} {l : List (Nat × Operand)} {cs : List Value} : Eh p e ((i, x) :: l) (some cs) .mk = Eh p e l (JN (p i) (Ds (C2 e x .mk)) cs) .mk := by
 simp only [Eh, Aw, JN, C2]
 cases p i with
 | none => rfl
 | some q =>
  obtain ⟨off, n⟩ := q
  cases Ds (e.op x) with
  | none => rfl
  | some vs =>
   by_cases hv : vs.length = n
   ·simp only [if_pos hv]; cases Qy cs off vs <;> rfl
   ·simp only [if_neg hv]
def Is (z : Nat) : Nat → Option (Nat × Nat) := fun i => some (i * z, z)
theorem Jk {z i : Nat} : Is z i = some (i * z, z) := rfl
def Yt (o : Option (TypeId × Nat × Nat)) : Nat := match o with | some (e, _, _) => e | none => 0
def bp (o : Option (TypeId × Nat × Nat)) : Nat := match o with | some (_, z, _) => z | none => 0
theorem X5 {e z b : Nat} : Yt (some (e, z, b)) = e := rfl
theorem WS {e z b : Nat} : bp (some (e, z, b)) = z := rfl
def NC (o : Option (TypeId × Nat × Nat)) (zs : Option (List Value)) (n : Nat) : Bool := match o, zs with
 | some (_, z, _), some zs => decide (n ≤ 64) && (decide (zs.length = z) && decide (z ≤ 64))
 | _, _ => false
theorem SJ {u z b n : Nat} {zs : List Value} : NC (some (u, z, b)) (some zs) n = (decide (n ≤ 64) && (decide (zs.length = z) && decide (z ≤ 64))) := rfl
def U8 (n : Nat) (o : Option (List Value)) : Option (List Value) := match o with | some z => some (repL n z) | none => none
theorem UL {n : Nat} {z : List Value} : U8 n (some z) = some (repL n z) := rfl
theorem fZ {z : List Value} : repL 0 z = [] := rfl
theorem Wd {n : Nat} {z : List Value} : repL (n + 1) z = z ++ repL n z := by simp [repL, List.replicate_succ]
theorem YQ {t n : Nat} {ps : List (Nat × Operand)} (hn : NC (elt? P t) (zr? P (Yt (elt? P t))) n = true) :
  xz P W0 (.buildSlice t n ps.toArray) e h K .mk = bm (Eh (Is (bp (elt? P t))) e ps (U8 n (zr? P (Yt (elt? P t)))) .mk) (bp (elt? P t)) n h K .mk := by
 cases he : elt? P t with
 | none => rw [he] at hn; cases hn
 | some q =>
  obtain ⟨u, z, y⟩ := q
  rw [he] at hn
  simp only [Yt] at hn
  cases hz : zr? P u with
  | none => rw [hz] at hn; cases hn
  | some zs =>
   rw [hz] at hn
   simp only [NC, Bool.and_eq_true, decide_eq_true_eq] at hn
   simp only [xz, H8, B6, C4, bm, he, hz, if_pos hn, Eh, bp, Yt, U8, show Is z = (fun i => some (i * z, z)) from rfl]
   generalize Aw (fun i => some (i * z, z)) e ps (repL n zs) = r
   cases r <;> rfl
theorem RU {f : FuncId} {xs : List Operand} {ts : Array TypeId} : xz P W0 (.call ⟨.value (.func f), xs.toArray, ts⟩) e h K .mk = wz P W0 f (Co e xs .mk) h K .mk := by
 simp [xz, H8, B6, Env.op, wz, Co]
theorem YB {g : FuncId} {xs : List Value} {caps : List Value} : bQ P W0 (.func (.func g) #[] caps.toArray) xs h K .mk = wz P W0 g (xs ++ caps) h K .mk := by simp [bQ, wz]
theorem XL {t : Tmp} {xs : List Operand} {ts : Array TypeId} : xz P W0 (.call ⟨.value (.tmp t), xs.toArray, ts⟩) e h K .mk = bQ P W0 (look e t .mk) (Co e xs .mk) h K .mk := by
 have hno : C4 P e h (.call ⟨.value (.tmp t), xs.toArray, ts⟩) = none := rfl
 simp only [xz, H8, B6, bQ, hno, andThen, look, Co, Env.op]
 generalize e t = v
 cases v <;> try rfl
 rename_i fn first caps
 cases fn <;> try rfl
 by_cases h3 : first.size = 0 <;> simp [h3]
def EN (P : Program) (h : Heap) (b : Builtin) (ts : List TypeId) (xs : List Value) (_ : Ar h) : Option (Value × Heap) := BX P h b ts xs
theorem J2 {b : Builtin} {xs : List Operand} {ts : List TypeId} : xz P W0 (.call ⟨.builtin b, xs.toArray, ts.toArray⟩) e h K .mk = az (EN P h b ts (Co e xs .mk) .mk) K .mk := by
 simp [xz, H8, B6, C4, EN, Co, az]
def iM (b : Bool) (f : FuncId) (l : List Value) : Option Value := match b with | true => some (.func (.func f) #[] l.toArray) | false => none
def gq (f : FuncId) (l : List Value) : Option Value := iM (l.all ptrV) f l
theorem eM {f : FuncId} {a b : Addr} : gq f [.pointer (some a), .pointer (some b)] = some (.func (.func f) #[] [.pointer (some a), .pointer (some b)].toArray) := rfl
theorem eJ {f : FuncId} {xs : List Operand} : xz P W0 (.makeFunc (.func f) #[] xs.toArray) e h K .mk = bz (gq f (Co e xs .mk)) h K .mk := by
 have hl : Co e xs .mk = xs.map e.op := rfl
 have hm : xs.toArray.map e.op = (xs.map e.op).toArray := by simp
 simp only [xz, H8, B6, C4, gq, hl, hm]
 by_cases hp : (xs.all fun x => ptrV (e.op x)) = true
 ·have h2 : ((xs.map e.op).all ptrV) = true := by simpa using hp
  rw [if_pos ⟨rfl, hp⟩, h2]; rfl
 ·have h2 : ((xs.map e.op).all ptrV) = false := by simpa using hp
  rw [if_neg (fun hh => hp hh.2), h2]; rfl
def iG (o : Option (List Value)) : Option Value := match o with | some l => some (.agg l.toArray) | none => none
def bk (g : Option Bool) (n : Option Nat) (k : Option KP) (off : Nat) : Option Value := match k with
 | some k => (match g with | some true => (match n with | some n => iG (rd k.cs off n) | none => none) | some false => k.cs[off]? | none => none)
 | none => none
theorem R4 {n : Option Nat} {w : Bool} {z off : Nat} {cs : List Value} : bk (some false) n (some ⟨w, z, cs⟩) off = cs[off]? := rfl
theorem MQ {t : TypeId} {b off : Nat} {p : Option Nat} : FF P h t (.pointer (some ⟨b, off, p⟩)) .mk = bk (agg? P t) (sz? P t) (hg h b .mk) off := by
 simp only [FF, Gn, hg, bk, iG]
 cases h.get b with
 | none => rfl
 | some k =>
  simp only
  cases agg? P t with
  | none => rfl
  | some g =>
   cases g with
   | false => rfl
   | true =>
    simp only
    cases sz? P t with
    | none => rfl
    | some n => simp only; cases rd k.cs off n <;> rfl
theorem KE {k : IntKind} {n : Int} : Ds (.int k n) = some [.int k n] := rfl
theorem fD {t : TypeId} {k : IntKind} {x y : Int} : binV P .add t (.int k x) (.int k y) = some (.int k (k.wrap (x + y))) := (if_pos rfl : binV P .add t (.int k x) (.int k y) = GX .add k x y).trans (rfl)
theorem gH {t : TypeId} {k : IntKind} {x y : Int} : binV P .sub t (.int k x) (.int k y) = some (.int k (k.wrap (x - y))) := (if_pos rfl : binV P .sub t (.int k x) (.int k y) = GX .sub k x y).trans (rfl)
theorem fE {t : TypeId} {k : IntKind} {x y : Int} : binV P .mul t (.int k x) (.int k y) = some (.int k (k.wrap (x * y))) := (if_pos rfl : binV P .mul t (.int k x) (.int k y) = GX .mul k x y).trans (rfl)
theorem fW {t : TypeId} {k : IntKind} {x y : Int} : binV P .xor t (.int k x) (.int k y) = some (.int k (Go.bits .xor k x y)) := (if_pos rfl : binV P .xor t (.int k x) (.int k y) = GX .xor k x y).trans (rfl)
theorem fy {t : TypeId} {k : IntKind} {x y : Int} : binV P .eql t (.int k x) (.int k y) = some (.bool (decide (x = y))) := (if_pos rfl : binV P .eql t (.int k x) (.int k y) = GX .eql k x y).trans (by simp [GX, Bool.beq_eq_decide_eq])
theorem fF {t : TypeId} {k : IntKind} {x y : Int} : binV P .neq t (.int k x) (.int k y) = some (.bool (decide (x ≠ y))) := (if_pos rfl : binV P .neq t (.int k x) (.int k y) = GX .neq k x y).trans (by simp only [GX]; congr 2; by_cases hxy : x = y <;> simp [hxy])
theorem gO {t : TypeId} {k : IntKind} {x y : Int} : binV P .lss t (.int k x) (.int k y) = some (.bool (decide (x < y))) := (if_pos rfl : binV P .lss t (.int k x) (.int k y) = GX .lss k x y).trans (rfl)
theorem fK {t : TypeId} {k : IntKind} {x y : Int} : binV P .leq t (.int k x) (.int k y) = some (.bool (decide (x ≤ y))) := (if_pos rfl : binV P .leq t (.int k x) (.int k y) = GX .leq k x y).trans (rfl)
theorem gC {t : TypeId} {k : IntKind} {x y : Int} : binV P .gtr t (.int k x) (.int k y) = some (.bool (decide (y < x))) := (if_pos rfl : binV P .gtr t (.int k x) (.int k y) = GX .gtr k x y).trans (rfl)
theorem gQ {t : TypeId} {k : IntKind} {x y : Int} : binV P .geq t (.int k x) (.int k y) = some (.bool (decide (y ≤ x))) := (if_pos rfl : binV P .geq t (.int k x) (.int k y) = GX .geq k x y).trans (rfl)
theorem gE {t : TypeId} {k : IntKind} {x y : Int} (h0 : (y == 0) = false) : binV P .quo t (.int k x) (.int k y) = some (.int k (k.wrap (x.tdiv y))) := (if_pos rfl : binV P .quo t (.int k x) (.int k y) = GX .quo k x y).trans (by simp_all [GX])
theorem fY {t : TypeId} {k : IntKind} {x y : Int} (h0 : (y == 0) = false) : binV P .rem t (.int k x) (.int k y) = some (.int k (x.tmod y)) := (if_pos rfl : binV P .rem t (.int k x) (.int k y) = GX .rem k x y).trans (by simp_all [GX])
theorem aK {t : TypeId} {k k' : IntKind} {x y : Int} : binV P .shl t (.int k x) (.int k' y) = GW .shl k x y := rfl
theorem ao {t : TypeId} {k k' : IntKind} {x y : Int} : binV P .shr t (.int k x) (.int k' y) = GW .shr k x y := rfl
theorem Zd {op : BinOp} {t : TypeId} {x y : ByteArray} : binV P op t (.string x) (.string y) = UY op x y := rfl
theorem dG {k : IntKind} {n : Int} : unV .neg (.int k n) = some (.int k (k.wrap (0 - n))) := rfl
theorem cX {b : Bool} : unV .not (.bool b) = some (.bool !b) := rfl
theorem EA {b : Bool} {A B : Prop} (ha : b = true → A) (hb : b = false → B) : gz b A B .mk := ⟨ha, hb⟩
theorem AN {p : Prop} [Decidable p] {A B : Prop} (ha : p → A) (hb : ¬ p → B) : gz (decide p) A B .mk := ⟨fun h => ha (of_decide_eq_true h), fun h => hb (of_decide_eq_false h)⟩
theorem DZ {b : Code} (I : Nat → Env → Heap → Prop) (n : Nat) (h0 : I n e h) (hr : ∀ n e h, I n e h → cz P W0 D b e h (NM I n Q) .mk) : lz P W0 D b e h Q .mk := ⟨I, n, h0, hr⟩
theorem AA {f : FuncId} {a : List Value} {K0 : KT} (c : WC P W0 f a h K0) (hk : ∀ v h', K0 v h' → kz K v h' .mk) : wz P W0 f a h K .mk := c.mono hk
theorem XY {okD : List Oper → Bool} {f : FuncId} {fn : Func} {c : Code} (hD : MX P W0 fn.ntmps D.d okD) (hf : P.funcs[f]? = some fn) (hb : fn.body = some c)
    (hn : (fn.name != "runtime.NumGoroutine") = true) (hok : Bc fn.ntmps okD c = true) {rs : List ResultVar} (hrs : fn.results.toList = rs) {args : List Value} {nt : Nat} (hnt : fn.ntmps = nt) (hlen : args.length ≤ nt)
    (hv : cz P W0 D c (DE args) h (ends P rs K) .mk) : WC P W0 f args h K := Lk hD hf hb hn hok (by rw [hnt]; exact hlen) (by rw [hrs]; exact hv)
attribute [go_sem] df dh YJ FB HI KF XB Xb Rl MK Jo IM Ap AB Q3 YR Sl W9 Ow CV SP Me J6 XC YT Oc Mg ON Lt cQ da RX Rx O8 SR S4 SH LZ MF LV OV O9 OZ R3 Ss Ig Rh gx Q4 Sm Rg N6 XP RZ N5 LP LY fP fq O4 LU eV cO R5 MR Sa S9 Si fA eZ Su X6 Sb Xh eU G2 J5 Ir Jk X5 WS SJ UL fZ Wd YQ List.cons_append List.nil_append List.append_nil RU YB XL J2 eM eJ R4 MQ KE aK ao Zd fD gH fE gE fY fW fy fF gO fK gC gQ dG cX
end Go.Ai
namespace Go.Ai
variable {P : Program} {W0 : World} {D : ID} {e : Env} {h : Heap} {Q : QT} {K : KT}
def eltT (o : Option (TypeId × Nat × Nat)) : Nat := match o with | some (e, _, _) => e | none => 0
def eltZ (o : Option (TypeId × Nat × Nat)) : Nat := match o with | some (_, z, _) => z | none => 0
theorem Vx {e z b : Nat} : eltT (some (e, z, b)) = e := rfl
theorem T6 {e z b : Nat} : eltZ (some (e, z, b)) = z := rfl
def G9 (v : Value) (l : Option (List Value)) : Option (List Value) := match l with | some l => some (v :: l) | none => none
theorem IU {v : Value} {l : List Value} : G9 v (some l) = some (v :: l) := rfl
theorem Gi {cs : List Value} {n : Nat} (hn : cs.length = n) : rd cs 0 n = some cs := by subst hn; simp [rd]
theorem Ot {cs : List Value} : Qy cs 0 [] = some cs := by simp [Qy]
theorem Ou {c v : Value} {cs vs : List Value} : Qy (c :: cs) 0 (v :: vs) = G9 v (Qy cs 0 vs) := by
 simp only [Qy, G9, List.length_cons, Nat.zero_add, List.take_zero, List.nil_append, List.drop_succ_cons, List.cons_append]
 by_cases hn : vs.length ≤ cs.length
 ·rw [if_pos (by omega), if_pos hn]
 ·rw [if_neg (by omega), if_neg hn]
theorem Jt {off n : Nat} {vs cs : List Value} (hn : (vs.length == n) = true) : JN (some (off, n)) (some vs) cs = Qy cs off vs := by
 simp only [JN]; rw [if_pos (by simpa using hn)]
theorem bK {o n : Nat} {b : Bool} : (Option.map (fun p : Nat × Nat × Bool => (p.1, p.2.1)) (some (o, n, b))) = some (o, n) := rfl
def Pg (o : Option (Nat × Nat × Bool)) : Nat := match o with | some (o, _, _) => o | none => 0
theorem UU {o n : Nat} {b : Bool} : Pg (some (o, n, b)) = o := rfl
def VA (o : Option (Nat × Nat × Bool)) : Nat := match o with | some (_, n, _) => n | none => 0
theorem Uj {o n : Nat} {b : Bool} : VA (some (o, n, b)) = n := rfl
def VK : Nat → Bool
 | 0 => false
 | _ + 1 => true
theorem cY {n : Nat} : VK (n + 1) = true := rfl
theorem cZ {s b off f : Nat} {p : Option Nat} (hn : VK (VA (fld? P s f)) = true) : fieldAddrV P s (.pointer (some ⟨b, off, p⟩)) f = some (.pointer (some ⟨b, off + Pg (fld? P s f), none⟩)) := by
 unfold fieldAddrV
 cases hf : fld? P s f with
 | none => rw [hf] at hn; simp [VA, VK] at hn
 | some q =>
  obtain ⟨o, n, g⟩ := q
  rw [hf] at hn
  simp only [VA] at hn
  match n, hn with
  | n + 1, _ => rfl
  | 0, hn => simp [VK] at hn
theorem ew {t b off n c : Nat} {p : Option Nat} {k : IntKind} {i : Int} (h1 : (elt? P t).isSome = true) (h2 : 0 ≤ i ∧ i < n) :
  indexAddrV P t (.slice (some ⟨b, off, p⟩) n c) (.int k i) = some (.pointer (some ⟨b, off + i.toNat * eltZ (elt? P t), none⟩)) := by
 unfold indexAddrV
 cases he : elt? P t with
 | none => rw [he] at h1; simp at h1
 | some q => obtain ⟨u, z, y⟩ := q; simp only [if_pos h2, eltZ]
theorem RN {t : TypeId} {a : Option Addr} {n c : Nat} (hc : cls? P t = some .sl) : EN P h .len [t] [.slice a n c] .mk = some (.int .i64 n, h) := by
 simp only [EN, BX, hc]
theorem Sd {ts : List TypeId} {k : IntKind} {x y : Int} : EN P h .max ts [.int k x, .int k y] .mk = some (.int k (mxI x y), h) := by simp [EN, BX, Bo]
def aR (o : Option Cls) : IntKind := match o with | some (.int k) => k | _ => .i64
theorem Wy {k : IntKind} : aR (some (.int k)) = k := rfl
def bc (o : Option Cls) : Bool := match o with | some (.int _) => true | _ => false
theorem Zr {k : IntKind} : bc (some (.int k)) = true := rfl
def shrI (k : IntKind) (x y : Int) : Int := x.fdiv (2 ^ (min y.toNat k.bits))
def shlI (k : IntKind) (x y : Int) : Int := k.wrap (x * 2 ^ (min y.toNat k.bits))
theorem gu {k : IntKind} {x y : Int} (hy : 0 ≤ y) : GW .shr k x y = some (.int k (shrI k x y)) := by simp [GW, shrI, Int.not_lt.2 hy]
theorem gf {k : IntKind} {x y : Int} (hy : 0 ≤ y) : GW .shl k x y = some (.int k (shlI k x y)) := by simp [GW, shlI, Int.not_lt.2 hy]
theorem fU {x y : ByteArray} : UY .neq x y = some (.bool (!(x.toList == y.toList))) := rfl
theorem fm {x y : ByteArray} (hs : ((x.size + y.size : Nat) : Int) ≤ 9223372036854775807) : UY .add x y = some (.string (x ++ y)) := if_neg (by omega)
theorem gL {t : TypeId} {x y : Bool} (hc : cls? P t = some .bool) : binV P .neq t (.bool x) (.bool y) = some (.bool (!(x == y))) := by simp [binV, eqV, hc]
theorem aL {n : Nat} : (n == n) = true := by simp
attribute [go_sem] cY Vx T6 IU Ot Ou Jt bK UU Uj cZ ew RN Sd Wy Zr gu gf fU fm gL aL Option.isSome_some List.getElem?_cons_zero List.getElem?_cons_succ List.length_cons List.length_nil Bool.and_true Bool.true_and Bool.and_self
end Go.Ai
namespace Go.Ai
variable {P : Program} {W0 : World}
def EM (l : List Oper) (i : Nat) : List Nat := match l[i]? with
 | some o => (o.after.toList.filter (Region.binds .any)).map (·.on)
 | none => []
def tmpsOf : List Operand → List Nat
 | [] => []
 | .tmp t :: r => t :: tmpsOf r
 | _ :: r => tmpsOf r
def Jz (l : List Oper) : Option (Nat × Bool) → List Nat
 | none => []
 | some (j, _) => match Ba l j with | some d => [d] | none => []
def Xy (l : List Oper) (o : Oper) : List Nat := tmpsOf o.op.operands.toList ++ Jz l o.guard
def looks (l : List Oper) (i : Nat) : List Nat := match l[i]? with | some o => Xy l o | none => []
theorem St {t : Nat} : ∀ {l : List Operand}, Operand.tmp t ∈ l → t ∈ tmpsOf l := by
 intro l
 induction l with
 | nil => intro h; cases h
 | cons x r ih =>
  intro h
  rcases List.mem_cons.1 h with h2 | h2
  ·subst h2; simp [tmpsOf]
  ·have := ih h2
   cases x <;> simp [tmpsOf, this]
theorem YH {e e' : Env} {l : List Operand} (h : ∀ t ∈ tmpsOf l, e t = e' t) {x : Operand} (hx : x ∈ l) : e.op x = e'.op x := by
 cases x with
 | tmp t => exact h t (St hx)
 | _ => rfl
theorem guard_congr {e e' : Env} {ops : List Oper} {g : Option (Nat × Bool)} (h : ∀ t ∈ Jz ops g, e t = e' t) : guardOf ops e g = guardOf ops e' g := by
 cases g with
 | none => rfl
 | some q =>
  obtain ⟨j, w⟩ := q
  simp only [guardOf, Jz] at h ⊢
  cases hd : Ba ops j with
  | none => rfl
  | some d => rw [hd] at h; simp only; rw [h d (by simp)]
theorem HY {place : Nat → Option (Nat × Nat)} {e e' : Env} : ∀ {l : List (Nat × Operand)} {cs : List Value}, (∀ p ∈ l, e.op p.2 = e'.op p.2) → Aw place e l cs = Aw place e' l cs
 | [], _, _ => rfl
 | (i, x) :: r, cs, h => by
  simp only [Aw]
  rw [show e.op x = e'.op x from h (i, x) (by simp)]
  split
  ·split
   ·split
    ·exact HY fun p hp => h p (by simp [hp])
    ·rfl
   ·rfl
  ·rfl
theorem I6 {e e' : Env} {xs : List Operand} (h : ∀ x ∈ xs, e.op x = e'.op x) : xs.map e.op = xs.map e'.op := List.map_congr_left h
theorem GQ {e e' : Env} {o : Option Operand} (h : ∀ x, o = some x → e.op x = e'.op x) : o.map e.op = o.map e'.op := by
 cases o with
 | none => rfl
 | some x => simp [h x rfl]
theorem Fi {e e' : Env} {h : Heap} (o : Op) (hx : ∀ x ∈ o.operands.toList, e.op x = e'.op x) : C4 P e h o = C4 P e' h o := by
 cases o <;> (try rfl) <;> simp only [Op.operands] at hx
 case move x => simp only [C4]; rw [hx x (by simp)]
 case assign x => simp only [C4]; rw [hx x (by simp)]
 case pick c a b => simp only [C4]; rw [hx c (by simp), hx a (by simp), hx b (by simp)]
 case box t x => simp only [C4]; rw [hx x (by simp)]
 case build t ps => simp only [C4]; cases zr? P t with
  | none => rfl
  | some z => simp only; rw [HY fun p hp => hx p.2 (by simp; exact ⟨p.1, by simpa using hp⟩)]
 case buildSlice t n ps =>
  simp only [C4]
  cases elt? P t with
  | none => rfl
  | some q =>
   obtain ⟨u, z, y⟩ := q
   simp only
   cases zr? P u with
   | none => rfl
   | some zs => simp only; rw [HY fun p hp => hx p.2 (by simp; exact ⟨p.1, by simpa using hp⟩)]
 case load t x => simp only [C4]; rw [hx x (by simp)]
 case store t x y => simp only [C4]; rw [hx x (by simp), hx y (by simp)]
 case nilCheck x => simp only [C4]; rw [hx x (by simp)]
 case binOp op t x y u => simp only [C4]; rw [hx x (by simp), hx y (by simp)]
 case unOp op t x => simp only [C4]; rw [hx x (by simp)]
 case convert s d x => simp only [C4]; rw [hx x (by simp)]
 case makeFunc fn first caps =>
  cases fn <;> (try rfl)
  simp only [C4]
  have h1 : (caps.toList.all fun x => ptrV (e.op x)) = (caps.toList.all fun x => ptrV (e'.op x)) := by
   rw [Bool.eq_iff_iff, List.all_eq_true, List.all_eq_true]
   exact ⟨fun hh x hxx => by rw [← hx x (by simp; right; simpa using hxx)]; exact hh x hxx, fun hh x hxx => by rw [hx x (by simp; right; simpa using hxx)]; exact hh x hxx⟩
  rw [h1, Array.map_congr_left (xs := caps) fun x hxx => hx x (by simp; right; simpa using hxx)]
 case makeSlice t x y => simp only [C4]; rw [hx x (by simp), hx y (by simp)]
 case slice t x lo hi mx =>
  simp only [C4]
  rw [hx x (by simp), GQ (o := lo) fun y hy => hx y (by simp [hy]), GQ (o := hi) fun y hy => hx y (by simp [hy]), GQ (o := mx) fun y hy => hx y (by simp [hy])]
 case fieldAddr s x f => simp only [C4]; rw [hx x (by simp)]
 case field s x f => simp only [C4]; rw [hx x (by simp)]
 case indexAddr t x ix => simp only [C4]; rw [hx x (by simp), hx ix (by simp)]
 case index t x ix => simp only [C4]; rw [hx x (by simp), hx ix (by simp)]
 case extract x i => simp only [C4]; rw [hx x (by simp)]
 case call c =>
  obtain ⟨callee, xs, ts⟩ := c
  cases callee <;> (try rfl)
  simp only [C4]
  rw [I6 fun x hxx => hx x (by simp [Call.operands]; simpa using hxx)]
theorem O7 {e e' : Env} (o : Op) (hx : ∀ x ∈ o.operands.toList, e.op x = e'.op x) : B6 e o = B6 e' o := by
 cases o <;> (try rfl)
 case call c =>
  obtain ⟨callee, xs, ts⟩ := c
  cases callee <;> (try rfl)
  rename_i f
  simp only [B6]
  rw [hx f (by simp [Op.operands, Call.operands]), I6 fun x hxx => hx x (by simp [Op.operands, Call.operands]; right; simpa using hxx)]
theorem Nn {e e' : Env} {h : Heap} {K : Value → Heap → Prop} (o : Op) (hx : ∀ x ∈ o.operands.toList, e.op x = e'.op x) : H8 P W0 e h o K = H8 P W0 e' h o K := by
 unfold H8; rw [O7 o hx, Fi o hx]
def CE (P : Program) : Op → Bool
 | .move _ | .assign _ | .pick _ _ _ | .load _ _ | .nilCheck _ | .binOp .. | .unOp .. | .fieldAddr .. | .field .. | .indexAddr .. | .index .. | .extract .. | .slice .. | .build .. | .makeFunc .. => true
 | .convert s d _ => match cls? P s, cls? P d with | some .str, some .sl => false | _, _ => true
 | .call ⟨.builtin .len, _, _⟩ | .call ⟨.builtin .cap, _, _⟩ | .call ⟨.builtin .max, _, _⟩ | .call ⟨.builtin .min, _, _⟩ => true
 | _ => false
def KZ (P : Program) : Op → Bool
 | .load _ _ | .slice .. => false
 | .convert s d _ => match cls? P s, cls? P d with | some .sl, _ => false | _, _ => true
 | _ => true
theorem GZ {e : Env} {o : Op} (hq : CE P o = true) : B6 e o = none := by
 cases o <;> (try rfl) <;> (try (simp [CE] at hq; done))
 case call c => obtain ⟨callee, xs, ts⟩ := c; cases callee <;> first | rfl | (simp [CE] at hq; done)
theorem BW {o : Option Value} {h h' : Heap} {v : Value} (hh : o.map (·, h) = some (v, h')) : h' = h ∧ ∀ h2 : Heap, o.map (·, h2) = some (v, h2) := by
 cases o with
 | none => cases hh
 | some x => simp at hh; obtain ⟨rfl, rfl⟩ := hh; exact ⟨rfl, fun _ => rfl⟩
theorem So {s d : TypeId} {x : Value} {h h' : Heap} {v : Value} (hq : CE P (.convert s d (.const x)) = true) (hv : HM P h s d x = some (v, h')) :
  h' = h ∧ (KZ P (.convert s d (.const x)) = true → ∀ h2, HM P h2 s d x = some (v, h2)) := by
 simp only [CE] at hq
 simp only [KZ]
 unfold HM at hv ⊢
 cases hs : cls? P s <;> cases hd : cls? P d <;> simp only [hs, hd] at hv hq ⊢ <;> (try (cases hv; done))
 rename_i c c'
 cases c <;> cases c' <;> cases x <;> simp only at hv hq ⊢ <;> (try (cases hv; done)) <;> (try (simp at hq; done)) <;> (try (simp at hv; obtain ⟨rfl, rfl⟩ := hv; simp; done))
 all_goals
  split at hv
  ·split at hv
   ·cases hv; simp
   ·cases hv
  ·cases hv
theorem Mw {b : Builtin} {ts : List TypeId} {xs : List Value} {h h' : Heap} {v : Value} (hb : b = .len ∨ b = .cap ∨ b = .max ∨ b = .min) (hv : BX P h b ts xs = some (v, h')) :
    h' = h ∧ ∀ h2, BX P h2 b ts xs = some (v, h2) := by
  rcases hb with rfl | rfl | rfl | rfl <;> unfold BX at hv ⊢
  · split at hv
    all_goals first
      | (exfalso; simp_all; done)
      | (split at hv
         · rename_i hc; cases hv; exact ⟨rfl, fun h2 => by simp only []⟩
         · cases hv)
  · split at hv
    all_goals first
      | (exfalso; simp_all; done)
      | (split at hv
         · rename_i hc; cases hv; exact ⟨rfl, fun h2 => by simp only []⟩
         · cases hv)
  · exact BW hv
  · exact BW hv
theorem Ey {e : Env} {o : Op} {h h' : Heap} {v : Value} (hq : CE P o = true) (hv : C4 P e h o = some (v, h')) :
  h' = h ∧ (KZ P o = true → ∀ h2, C4 P e h2 o = some (v, h2)) := by
 cases o <;> (try (simp [CE] at hq; done)) <;> simp only [C4] at hv ⊢
 case move x => cases hv; exact ⟨rfl, fun _ _ => rfl⟩
 case assign x => cases hv; exact ⟨rfl, fun _ _ => rfl⟩
 case pick c a b => split at hv <;> simp_all
 case build t ps =>
  split at hv
  ·split at hv
   ·rename_i hb; simp only [if_pos hb]
    generalize Aw (fun i => (fld? P t i).map fun p => (p.1, p.2.1)) e ps.toList _ = r at hv
    cases r with
    | none => cases hv
    | some l => simp at hv; obtain ⟨rfl, rfl⟩ := hv; exact ⟨rfl, fun _ _ => rfl⟩
   ·cases hv
  ·cases hv
 case load t x => exact ⟨(BW hv).1, fun hp => by simp [KZ] at hp⟩
 case nilCheck x => split at hv <;> simp_all
 case binOp op t x y u => exact ⟨(BW hv).1, fun _ => (BW hv).2⟩
 case unOp op t x => exact ⟨(BW hv).1, fun _ => (BW hv).2⟩
 case convert s d x => exact So (x := e.op x) hq hv
 case makeFunc fn first caps =>
  cases fn <;> simp only [] at hv ⊢ <;> (try (cases hv; done))
  split at hv <;> simp_all
 case slice t x lo hi mx => exact ⟨(BW hv).1, fun hp => by simp [KZ] at hp⟩
 case fieldAddr s x f => exact ⟨(BW hv).1, fun _ => (BW hv).2⟩
 case field s x f => exact ⟨(BW hv).1, fun _ => (BW hv).2⟩
 case indexAddr t x ix => exact ⟨(BW hv).1, fun _ => (BW hv).2⟩
 case index t x ix => exact ⟨(BW hv).1, fun _ => (BW hv).2⟩
 case extract x i => exact ⟨(BW hv).1, fun _ => (BW hv).2⟩
 case call c =>
  obtain ⟨callee, xs, ts⟩ := c
  cases callee <;> (try (simp [CE] at hq; done))
  rename_i b
  have hb : b = .len ∨ b = .cap ∨ b = .max ∨ b = .min := by cases b <;> simp_all [CE]
  obtain ⟨h1, h2⟩ := Mw hb hv
  exact ⟨h1, fun _ => h2⟩
end Go.Ai
namespace Go.Ai
variable {P : Program} {W0 : World}
def effO (P : Program) (l : List Oper) (i : Nat) : Bool := match l[i]? with | some o => !CE P o.op | none => true
def HE (P : Program) (l : List Oper) (i : Nat) : Bool := match l[i]? with | some o => !KZ P o.op | none => false
def stays (P : Program) (l : List Oper) (q : Nat) (e : Env) (h : Heap) : Prop := match l[q]? with
 | none => True
 | some o => match guardOf l e o.guard with
  | some true => (match o.dst with | some d => C4 P e h o.op = some (e d, h) | none => False)
  | some false => True
  | none => False
def Jy (P : Program) (W0 : World) (l : List Oper) : List (Nat × List Nat) → Env → Heap → QT → Prop
 | [], e, h, Q => Q .normal e h
 | (i, pd) :: r, e, h, Q => match l[i]? with
  | none => False
  | some o => guarded (guardOf l e o.guard) (H8 P W0 e h o.op fun v h' => (∀ q ∈ pd, stays P l q (e.putO o.dst v) h') ∧ Jy P W0 l r (e.putO o.dst v) h' Q) (Jy P W0 l r (e.putO o.dst undef) h Q)
def descOk (l : List Oper) : List Nat → List (Nat × List Nat) → Bool
 | _, [] => true
 | D, (k, _) :: r => (EM l k).any (fun j => D.contains j) && descOk l (k :: D) r
def Sz (l : List Oper) : List Nat → List Nat → List Nat
 | [], A => A
 | q :: r, A => Sz l r (if A.contains q then A ++ EM l q else A)
def chk (P : Program) (l : List Oper) : List Nat → List (Nat × List Nat) → Bool
  | _, [] => true
  | pre, (i, pd) :: r => !(pre.contains i) && (decide (i < l.length) && ((EM l i).all (fun j => pre.contains j) && ((!effO P l i || (descOk l [i] r &&
      (pre.all (fun q => !HE P l q || (pd.contains q || (Sz l pre (EM l i)).contains q)) &&
       pd.all (fun q => (looks l q).all fun t => (i :: pre).all fun j => Ba l j != some t || (EM l q).contains j)))) && chk P l (i :: pre) r)))
def JQ (l : List Oper) : Bool := (List.range l.length).all fun j => match Ba l j with
 | none => true
 | some t => (List.range l.length).all fun i => (i == j || Ba l i != some t) && (!(looks l i).contains t || ((EM l i).contains j || (EM l j).contains i))
def Ij (P : Program) (l : List Oper) (p : List (Nat × List Nat)) : Bool := JQ l && ((List.range l.length).all (fun i => (p.map (·.1)).contains i) && chk P l [] p)
theorem LL {l : List Oper} {j d : Nat} (h : Ba l j = some d) : j < l.length := by
 rw [C8] at h
 cases hx : l[j]? with
 | none => rw [hx] at h; cases h
 | some o => exact (List.getElem?_eq_some_iff.1 hx).1
theorem YG {l : List Oper} {i t : Nat} (h : t ∈ looks l i) : i < l.length := by
 unfold looks at h
 cases hx : l[i]? with
 | none => rw [hx] at h; cases h
 | some o => exact (List.getElem?_eq_some_iff.1 hx).1
theorem Ml {l : List Oper} (g : JQ l = true) {i j t : Nat} (hi : Ba l i = some t) (hj : Ba l j = some t) : i = j := by
 have := List.all_eq_true.1 g j (by simpa using LL hj)
 simp only [hj] at this
 have := List.all_eq_true.1 this i (by simpa using LL hi)
 rw [Bool.and_eq_true] at this
 have := this.1
 simp [hi] at this
 exact this
theorem UN {l : List Oper} (g : JQ l = true) {i j t : Nat} (hi : t ∈ looks l i) (hj : Ba l j = some t) : j ∈ EM l i ∨ i ∈ EM l j := by
 have := List.all_eq_true.1 g j (by simpa using LL hj)
 simp only [hj] at this
 have := List.all_eq_true.1 this i (by simpa using YG hi)
 rw [Bool.and_eq_true] at this
 have := this.2
 simp [hi] at this
 exact this
def Ue (l : List Oper) (X : Nat → Prop) (val : Nat → Value) (e0 e : Env) : Prop :=
 ∀ t, (∀ j, X j → Ba l j = some t → e t = val j) ∧ ((∀ j, X j → Ba l j ≠ some t) → e t = e0 t)
def FM (l : List Oper) (q : Nat) (val : Nat → Value) (e0 e : Env) : Prop :=
 ∀ t ∈ looks l q, (∀ j ∈ EM l q, Ba l j = some t → e t = val j) ∧ ((∀ j ∈ EM l q, Ba l j ≠ some t) → e t = e0 t)
def ZL (P : Program) (l : List Oper) (q : Nat) (val : Nat → Value) (e0 : Env) (h : Heap) : Prop :=
 ∀ o, l[q]? = some o → ∀ e, FM l q val e0 e → ∃ g, guardOf l e o.guard = some g ∧ (g = true → C4 P e h o.op = some (val q, h)) ∧ (g = false → val q = undef)
theorem Cp {l : List Oper} (g : JQ l = true) {X : Nat → Prop} {val : Nat → Value} {e0 e : Env} {q : Nat} (c : Ue l X val e0 e) (hb : ∀ j ∈ EM l q, X j) (hn : ∀ j, X j → q ∉ EM l j) : FM l q val e0 e := by
 intro t ht
 refine ⟨fun j hj hd => (c t).1 j (hb j hj) hd, fun hno => (c t).2 fun j hX hd => ?_⟩
 rcases UN g ht hd with h1 | h1
 ·exact hno j h1 hd
 ·exact hn j hX h1
theorem GG {l : List Oper} {val : Nat → Value} {e0 e e' : Env} {q : Nat} (a : FM l q val e0 e) (a' : FM l q val e0 e') : ∀ t ∈ looks l q, e t = e' t := by
 intro t ht
 by_cases hj : ∃ j ∈ EM l q, Ba l j = some t
 ·obtain ⟨j, h1, h2⟩ := hj
  rw [(a t ht).1 j h1 h2, (a' t ht).1 j h1 h2]
 ·have hno : ∀ j ∈ EM l q, Ba l j ≠ some t := fun j h1 h2 => hj ⟨j, h1, h2⟩
  rw [(a t ht).2 hno, (a' t ht).2 hno]
theorem Ea {l : List Oper} {val val' : Nat → Value} {e0 e : Env} {q : Nat} (h : ∀ j ∈ EM l q, val' j = val j) (a : FM l q val' e0 e) : FM l q val e0 e := by
 intro t ht
 exact ⟨fun j hj hd => (((a t ht).1 j hj hd).trans (h j hj)), (a t ht).2⟩
theorem Xj {l : List Oper} {q : Nat} {o : Oper} (ho : l[q]? = some o) : looks l q = Xy l o := by simp [looks, ho]
theorem Fj {l : List Oper} {q : Nat} {o : Oper} (ho : l[q]? = some o) {e e' : Env} (h : ∀ t ∈ looks l q, e t = e' t) :
  guardOf l e o.guard = guardOf l e' o.guard ∧ ∀ x ∈ o.op.operands.toList, e.op x = e'.op x := by
 rw [Xj ho] at h
 exact ⟨guard_congr fun t ht => h t (List.mem_append_right _ ht), fun x hx => YH (fun t ht => h t (List.mem_append_left _ ht)) hx⟩
theorem FL {l : List Oper} (g : JQ l = true) {X : Nat → Prop} {val val' : Nat → Value} {e0 e : Env} {i : Nat} {v : Value} {o : Oper} (ho : l[i]? = some o) (hX : ¬ X i) (c : Ue l X val e0 e)
    (hv : ∀ j, X j → val' j = val j) (hi : val' i = v) : Ue l (fun j => j = i ∨ X j) val' e0 (e.putO o.dst v) := by
  have hdi : Ba l i = o.dst := by rw [C8, ho]; rfl
  intro t
  constructor
  · rintro j (rfl | hj) hd
    · rw [hdi] at hd; rw [hd, hi]; simp [Env.putO, Env.put]
    · have : o.dst ≠ some t := fun hh => by
        have := Ml g hd (hdi.trans hh); subst this; exact hX hj
      have h1 : e.putO o.dst v t = e t := by
        cases hdo : o.dst with
        | none => rfl
        | some d => simp [Env.putO, Env.put]; intro ht; subst ht; exact absurd hdo this
      rw [h1, (c t).1 j hj hd, hv j hj]
  · intro hno
    have : o.dst ≠ some t := fun hh => hno i (.inl rfl) (hdi.trans hh)
    have h1 : e.putO o.dst v t = e t := by
      cases hdo : o.dst with
      | none => rfl
      | some d => simp [Env.putO, Env.put]; intro ht; subst ht; exact absurd hdo this
    rw [h1]
    exact (c t).2 fun j hj => hno j (.inr hj)
theorem Hc {l : List Oper} {X Y : Nat → Prop} {val : Nat → Value} {e0 e : Env} (h : ∀ j, X j ↔ Y j) (c : Ue l X val e0 e) : Ue l Y val e0 e := by
 intro t
 exact ⟨fun j hj => (c t).1 j ((h j).2 hj), fun hno => (c t).2 fun j hj => hno j ((h j).1 hj)⟩
theorem Ta {l : List Oper} {X : Nat → Prop} {val val' : Nat → Value} {e0 e : Env} (h : ∀ j, X j → val' j = val j) (c : Ue l X val e0 e) : Ue l X val' e0 e := by
 intro t
 exact ⟨fun j hj hd => ((c t).1 j hj hd).trans (h j hj).symm, (c t).2⟩
theorem Wo {l : List Oper} {X : Nat → Prop} {val : Nat → Value} {e0 e e' : Env} (c : Ue l X val e0 e) (c' : Ue l X val e0 e') : e = e' := by
 funext t
 by_cases hj : ∃ j, X j ∧ Ba l j = some t
 ·obtain ⟨j, h1, h2⟩ := hj; rw [(c t).1 j h1 h2, (c' t).1 j h1 h2]
 ·have hno : ∀ j, X j → Ba l j ≠ some t := fun j h1 h2 => hj ⟨j, h1, h2⟩
  rw [(c t).2 hno, (c' t).2 hno]
structure Inv (P : Program) (W0 : World) (l : List Oper) (nt : Nat) (e0 : Env) (Q : QT) (ι0 : Ren) (S : Nat → Prop) (dn : List Nat) (rest : List (Nat × List Nat)) (val : Nat → Value) (ec es : Env) (h : Heap) (a : Act) (w : World) : Prop where
 closed : ∀ i, S i → ∀ j ∈ EM l i, S j
 sub : ∀ i, S i → i ∈ dn
 effs : ∀ i ∈ dn, effO P l i = true → S i
 topo : ∀ d1 q d2, dn = d1 ++ q :: d2 → ∀ j ∈ EM l q, j ∈ d2
 inb : ∀ i ∈ dn, i < l.length
 full : ∀ i, i < l.length → i ∈ dn ∨ i ∈ rest.map (·.1)
 chk : chk P l dn rest = true
 cur : Ue l (· ∈ dn) val e0 ec
 curS : Ue l S val e0 es
 pend : ∀ q ∈ dn, ¬ S q → ZL P l q val e0 h
 run : Jy P W0 l rest ec h Q
 sim : ∃ ι, ι0.le ι ∧ CU P W0 ι h w ∧ RE nt ι es a
section
variable {l : List Oper} {nt : Nat} {e0 : Env} {Q : QT} {ι0 : Ren} {S : Nat → Prop} {dn : List Nat} {rest : List (Nat × List Nat)} {val : Nat → Value} {ec es : Env} {h : Heap} {a : Act} {w : World}
theorem Inv.before (I : Inv P W0 l nt e0 Q ι0 S dn rest val ec es h a w) {q : Nat} (hq : q ∈ dn) : ∀ j ∈ EM l q, j ∈ dn := by
 obtain ⟨d1, d2, rfl⟩ := List.append_of_mem hq
 intro j hj
 have := I.topo d1 q d2 rfl j hj
 simp [this]
theorem Inv.head (I : Inv P W0 l nt e0 Q ι0 S dn rest val ec es h a w) {i : Nat} {pd : List Nat} {r : List (Nat × List Nat)} (hr : rest = (i, pd) :: r) :
  i ∉ dn ∧ i < l.length ∧ (∀ j ∈ EM l i, j ∈ dn) ∧ (effO P l i = true → descOk l [i] r = true ∧
   (∀ q ∈ dn, HE P l q = true → q ∈ pd ∨ q ∈ Sz l dn (EM l i)) ∧ ∀ q ∈ pd, ∀ t ∈ looks l q, ∀ j, j = i ∨ j ∈ dn → Ba l j = some t → j ∈ EM l q) ∧ Go.Ai.chk P l (i :: dn) r = true := by
 have c := I.chk
 rw [hr] at c
 simp only [Go.Ai.chk, Bool.and_eq_true] at c
 obtain ⟨c1, c2, c3, c4, c5⟩ := c
 refine ⟨by simpa using c1, by simpa using c2, fun j hj => by simpa using List.all_eq_true.1 c3 j hj, fun he => ?_, c5⟩
 rw [he] at c4
 simp only [Bool.not_true, Bool.false_or, Bool.and_eq_true] at c4
 obtain ⟨d1, d2, d3⟩ := c4
 refine ⟨d1, fun q hq hs => ?_, fun q hq t ht j hj hd => ?_⟩
 ·have := List.all_eq_true.1 d2 q hq
  simp [hs] at this
  exact this
 ·have := List.all_eq_true.1 (List.all_eq_true.1 (List.all_eq_true.1 d3 q hq) t ht) j (by simpa using hj)
  simp [hd] at this
  exact this
theorem Inv.advance (g : JQ l = true) (I : Inv P W0 l nt e0 Q ι0 S dn rest val ec es h a w) {i : Nat} {pd : List Nat} {r : List (Nat × List Nat)} (hr : rest = (i, pd) :: r) (hq : effO P l i = false) :
    ∃ val' ec', Inv P W0 l nt e0 Q ι0 S (i :: dn) r val' ec' es h a w := by
  obtain ⟨h1, h2, h3, _, h5⟩ := I.head hr
  have hrun := I.run
  rw [hr] at hrun
  simp only [Jy] at hrun
  have ho : l[i]? = some l[i] := List.getElem?_eq_getElem h2
  generalize l[i] = o at ho
  rw [ho] at hrun
  simp only at hrun
  have hquiet : CE P o.op = true := by simp [effO, ho] at hq; exact hq
  have hag : FM l i val e0 ec := Cp g I.cur h3 fun j hj hb => h1 (I.before hj i hb)
  have hS : ¬ S i := fun hs => h1 (I.sub i hs)
  have hself : i ∉ EM l i := fun hb => h1 (h3 i hb)
  -- in both ways: a value, and what stays
  have fin : ∀ (v : Value), (∃ gg, guardOf l ec o.guard = some gg ∧ (gg = true → C4 P ec h o.op = some (v, h)) ∧ (gg = false → v = undef)) → Jy P W0 l r (ec.putO o.dst v) h Q →
      ∃ val' ec', Inv P W0 l nt e0 Q ι0 S (i :: dn) r val' ec' es h a w := by
    intro v hf hrn
    have hv : ∀ j, j ≠ i → (if j = i then v else val j) = val j := fun j hj => if_neg hj
    have hvd : ∀ j, j ∈ dn → (if j = i then v else val j) = val j := fun j hj => hv j fun e => h1 (e ▸ hj)
    refine ⟨fun j => if j = i then v else val j, ec.putO o.dst v, ?_⟩
    refine ⟨I.closed, fun j hj => List.mem_cons_of_mem _ (I.sub j hj), ?_, ?_, ?_, ?_, h5, ?_, Ta (fun j hj => hvd j (I.sub j hj)) I.curS, ?_, hrn, I.sim⟩
    · intro j hj he
      rcases List.mem_cons.1 hj with rfl | hj
      · rw [hq] at he; cases he
      · exact I.effs j hj he
    · intro d1 q d2 hd j hj
      cases d1 with
      | nil => simp at hd; obtain ⟨rfl, rfl⟩ := hd; exact h3 j hj
      | cons x d1 => simp at hd; exact I.topo d1 q d2 hd.2 j hj
    · intro j hj
      rcases List.mem_cons.1 hj with rfl | hj
      · exact h2
      · exact I.inb j hj
    · intro j hj
      rcases I.full j hj with hh | hh
      · exact .inl (List.mem_cons_of_mem _ hh)
      · rw [hr] at hh
        rcases List.mem_cons.1 hh with rfl | hh
        · exact .inl (by simp)
        · exact .inr hh
    · exact Hc (fun j => by simp) (FL g ho h1 I.cur hvd (by simp))
    · intro q hqd hqs
      rcases List.mem_cons.1 hqd with rfl | hqd
      · intro o' ho' e he
        rw [ho] at ho'; cases ho'
        have he2 := Ea (fun j hj => hv j fun e => hself (by rw [e] at hj; exact hj)) he
        obtain ⟨s1, s2⟩ := Fj ho (GG he2 hag)
        obtain ⟨gg, g1, g2, g3⟩ := hf
        exact ⟨gg, by rw [s1]; exact g1, fun hg => by rw [Fi _ s2]; simpa using g2 hg, fun hg => by simpa using g3 hg⟩
      · intro o' ho' e he
        have he2 := Ea (fun j hj => hvd j (I.before hqd j hj)) he
        obtain ⟨gg, g1, g2, g3⟩ := I.pend q hqd hqs o' ho' e he2
        have : (if q = i then v else val q) = val q := hvd q hqd
        exact ⟨gg, g1, fun hg => by simp only [this]; exact g2 hg, fun hg => by simp only [this]; exact g3 hg⟩
  unfold guarded at hrun
  split at hrun
  · rename_i gg hg
    cases gg with
    | false => exact fin undef ⟨false, hg, fun hh => (by cases hh), fun _ => rfl⟩ (hrun.2 rfl)
    | true =>
      replace hrun := hrun.1 rfl
      unfold H8 at hrun
      rw [GZ hquiet] at hrun
      simp only [andThen] at hrun
      split at hrun
      · rename_i v h' hv
        obtain ⟨rfl, _⟩ := Ey hquiet hv
        exact fin v ⟨true, hg, fun _ => hv, fun hh => (by cases hh)⟩ hrun.2
      · cases hrun
  · cases hrun
theorem Inv.ahead (g : JQ l = true) : ∀ (rest : List (Nat × List Nat)) (dn : List Nat) (val : Nat → Value) (ec : Env), Inv P W0 l nt e0 Q ι0 S dn rest val ec es h a w →
  ∃ dn' rest' val' ec', Inv P W0 l nt e0 Q ι0 S dn' rest' val' ec' es h a w ∧ ∀ i pd r, rest' = (i, pd) :: r → effO P l i = true := by
 intro rest
 induction rest with
 | nil => intro dn val ec I; exact ⟨dn, [], val, ec, I, fun _ _ _ hh => by cases hh⟩
 | cons p r ih =>
  intro dn val ec I
  obtain ⟨i, pd⟩ := p
  cases hq : effO P l i with
  | true => exact ⟨dn, _, val, ec, I, fun i' pd' r' hh => by cases hh; exact hq⟩
  | false =>
   obtain ⟨val', ec', I'⟩ := I.advance g rfl hq
   exact ih _ _ _ I'
theorem Md {S : Nat → Prop} (hc : ∀ i, S i → ∀ j ∈ EM l i, S j) : ∀ (d A : List Nat), (∀ j ∈ A, S j) → ∀ j ∈ Sz l d A, S j
 | [], A, h => h
 | q :: r, A, h => by
  simp only [Sz]
  refine Md hc r _ ?_
  split
  ·rename_i hq
   intro j hj
   rcases List.mem_append.1 hj with hj | hj
   ·exact h j hj
   ·exact hc q (h q (by simpa using hq)) j hj
  ·exact h
theorem Px {S : Nat → Prop} (hc : ∀ i, S i → ∀ j ∈ EM l i, S j) : ∀ (r : List (Nat × List Nat)) (D : List Nat), (∀ j ∈ D, ¬ S j) → descOk l D r = true → ∀ k ∈ r.map (·.1), ¬ ∀ j ∈ EM l k, S j
 | [], D, _, _, k, hk => by simp at hk
 | (q, _) :: r, D, hD, hd, k, hk => by
  simp only [descOk, Bool.and_eq_true] at hd
  have hq : ¬ ∀ j ∈ EM l q, S j := by
   intro hall
   obtain ⟨j, hj, hjD⟩ := List.any_eq_true.1 hd.1
   exact hD j (by simpa using hjD) (hall j hj)
  rcases List.mem_cons.1 hk with rfl | hk
  ·exact hq
  ·refine Px hc r (q :: D) ?_ hd.2 k hk
   intro j hj
   rcases List.mem_cons.1 hj with rfl | hj
   ·exact fun hs => hq (hc _ hs)
   ·exact hD j hj
theorem Kx {ops : Array Oper} {QQ : Exit → Act → World → Prop} {ι : Ren} {i : Nat} {o : Oper} (ho : ops[i]? = some o) (hok : E1 nt o = true) (re : RE nt ι es a) (s : CU P W0 ι h w)
  {g : Bool} (hg : guardOf ops.toList es o.guard = some g) {Kv : Value → Heap → Prop} (hT : g = true → H8 P W0 es h o.op Kv) {K : Act → World → Prop}
  (hK : g = true → ∀ v h', Kv v h' → ∀ ι' v' w', ι.le ι' → CU P W0 ι' h' w' → RE nt ι' (es.putO o.dst v) (a.put o.dst v') → K (a.put o.dst v') w')
  (hF : g = false → RE nt ι (es.putO o.dst undef) (a.put o.dst undef) → K (a.put o.dst undef) w) : wpOp P ops QQ i K a w := by
 have ⟨hop, hd⟩ := ML hok
 have hw := Kc (ops := ops) re hg
 unfold wpOp
 rw [ho]
 simp only
 cases g with
 | false => rw [if_neg (by rw [hw]; decide)]; exact hF rfl (re.putO hd N7)
 | true =>
  rw [if_pos hw]
  left
  have hv := hT rfl
  unfold H8 at hv
  split at hv
  ·rename_i f args hc
   obtain ⟨args', hrun, hargs⟩ := LD re hop hc hv.1 w
   unfold Oper.wp
   rw [hrun]
   simp only [Oper.upon]
   exact (hv.2 ι w args' s hargs).mono fun e w' ⟨v, v', h', ι', h1, h2, h3, h4, h5⟩ => by subst h1; exact hK rfl v h' h5 ι' v' w' h2 h3 ((re.mono h2).putO hd h4)
  ·unfold andThen at hv
   split at hv
   ·rename_i v h' hov
    obtain ⟨ι', w', v', hd', h2, h3, h4⟩ := Ni s re hop hov
    unfold Oper.wp
    rcases hd' with hd' | ⟨hd', rfl⟩
    ·rw [hd']; simp only [Oper.upon]; exact hK rfl v h' hv ι' v' w' h2 h3 ((re.mono h2).putO hd h4)
    ·rw [hd']; simp only [Oper.upon]; exact hK rfl v h' hv ι' undef w' h2 h3 ((re.mono h2).putO hd h4)
   ·cases hv
theorem Inv.step {ops : Array Oper} {QQ : Exit → Act → World → Prop} (hl : l = ops.toList) (hoks : ∀ o ∈ l, E1 nt o = true) (g : JQ l = true) (I : Inv P W0 l nt e0 Q ι0 S dn rest val ec es h a w)
    (hhd : ∀ i pd r, rest = (i, pd) :: r → effO P l i = true) {i : Nat} (hi : i < l.length) (hni : ¬ S i) (hb : ∀ j ∈ EM l i, S j) :
    wpOp P ops QQ i (fun a' w' => ∃ dn' rest' val' ec' es' h', Inv P W0 l nt e0 Q ι0 (fun j => j = i ∨ S j) dn' rest' val' ec' es' h' a' w') a w := by
  have ho : l[i]? = some l[i] := List.getElem?_eq_getElem hi
  have hok := hoks l[i] (List.getElem_mem hi)
  generalize l[i] = o at ho hok
  have Av : ops[i]? = some o := by rw [hl, Array.getElem?_toList] at ho; exact ho
  obtain ⟨ι, hle, hs, hre⟩ := I.sim
  have hclosed : ∀ j, (j = i ∨ S j) → ∀ k ∈ EM l j, k = i ∨ S k := by
    rintro j (rfl | hj) k hk
    · exact .inr (hb k hk)
    · exact .inr (I.closed j hj k hk)
  have hagS : FM l i val e0 es := Cp g I.curS hb fun j hj hbj => hni (I.closed j hj i hbj)
  by_cases hd : i ∈ dn
  · -- planned ahead: its value is known
    obtain ⟨gg, g1, g2, g3⟩ := I.pend i hd hni o ho es hagS
    have hnE : effO P l i = false := by
      cases he : effO P l i with
      | false => rfl
      | true => exact (hni (I.effs i hd he)).elim
    have hquiet : CE P o.op = true := by simp [effO, ho] at hnE; exact hnE
    have next : ∀ (v : Value) (ι' : Ren) (a' : Act) (w' : World), v = val i → ι.le ι' → CU P W0 ι' h w' → RE nt ι' (es.putO o.dst v) a' → ∃ dn' rest' val' ec' es' h', Inv P W0 l nt e0 Q ι0 (fun j => j = i ∨ S j) dn' rest' val' ec' es' h' a' w' := by
      intro v ι' a' w' hv hle' hs' hre'
      refine ⟨dn, rest, val, ec, es.putO o.dst v, h, hclosed, ?_, fun j hj he => .inr (I.effs j hj he), I.topo, I.inb, I.full, I.chk, I.cur, FL g ho hni I.curS (fun _ _ => rfl) hv.symm, fun q hq hqs => I.pend q hq fun hh => hqs (.inr hh), I.run, ι', Ren.le_trans hle hle', hs', hre'⟩
      rintro j (rfl | hj)
      · exact hd
      · exact I.sub j hj
    refine Kx Av hok hre hs (by rw [← hl]; exact g1) (Kv := fun v h' => v = val i ∧ h' = h) ?_ ?_ ?_
    · intro hg
      unfold H8
      rw [GZ hquiet, g2 hg]
      exact ⟨rfl, rfl⟩
    · rintro hg v h' ⟨rfl, rfl⟩ ι' v' w' hle' hs' hre'
      exact next _ ι' _ w' rfl hle' hs' hre'
    · intro hg hre'
      exact next undef ι _ w (g3 hg).symm (Ren.le_refl _) hs hre'
  · -- it is what comes next
    have hir : i ∈ rest.map (·.1) := (I.full i hi).resolve_left hd
    obtain ⟨pd, r, hr⟩ : ∃ pd r, rest = (i, pd) :: r := by
      cases hrest : rest with
      | nil => rw [hrest] at hir; cases hir
      | cons p r =>
        obtain ⟨k, pd⟩ := p
        rw [hrest] at hir
        rcases List.mem_cons.1 hir with rfl | hir
        · exact ⟨pd, r, rfl⟩
        · exfalso
          have hE := hhd k pd r hrest
          obtain ⟨k1, k2, k3, k4, k5⟩ := I.head hrest
          have hnk : ¬ S k := fun hh => k1 (I.sub k hh)
          exact Px I.closed r [k] (by simpa using hnk) (k4 hE).1 i hir hb
    have hE := hhd i pd r hr
    obtain ⟨k1, k2, k3, k4, k5⟩ := I.head hr
    obtain ⟨_, kp, kd⟩ := k4 hE
    have hag : FM l i val e0 ec := Cp g I.cur k3 fun j hj hbj => k1 (I.before hj i hbj)
    obtain ⟨s1, s2⟩ := Fj ho (GG hagS hag)
    have hrun := I.run
    rw [hr] at hrun
    simp only [Jy, ho] at hrun
    have hself : i ∉ EM l i := fun hh => hni (hb i hh)
    have next : ∀ (v : Value) (h' : Heap) (ι' : Ren) (a' : Act) (w' : World), Jy P W0 l r (ec.putO o.dst v) h' Q → (∀ q ∈ dn, ¬ S q → ZL P l q val e0 h') → ι.le ι' → CU P W0 ι' h' w' → RE nt ι' (es.putO o.dst v) a' →
        ∃ dn' rest' val' ec' es' h', Inv P W0 l nt e0 Q ι0 (fun j => j = i ∨ S j) dn' rest' val' ec' es' h' a' w' := by
      intro v h' ι' a' w' hrn hfine hle' hs' hre'
      have hv : ∀ j, j ≠ i → (if j = i then v else val j) = val j := fun j hj => if_neg hj
      have hvd : ∀ j, j ∈ dn → (if j = i then v else val j) = val j := fun j hj => hv j fun e => k1 (e ▸ hj)
      refine ⟨i :: dn, r, fun j => if j = i then v else val j, ec.putO o.dst v, es.putO o.dst v, h', hclosed, ?_, ?_, ?_, ?_, ?_, k5, ?_, ?_, ?_, hrn, ι', Ren.le_trans hle hle', hs', hre'⟩
      · rintro j (rfl | hj)
        · simp
        · exact List.mem_cons_of_mem _ (I.sub j hj)
      · intro j hj he
        rcases List.mem_cons.1 hj with rfl | hj
        · exact .inl rfl
        · exact .inr (I.effs j hj he)
      · intro d1 q d2 hd j hj
        cases d1 with
        | nil => simp at hd; obtain ⟨rfl, rfl⟩ := hd; exact k3 j hj
        | cons x d1 => simp at hd; exact I.topo d1 q d2 hd.2 j hj
      · intro j hj
        rcases List.mem_cons.1 hj with rfl | hj
        · exact k2
        · exact I.inb j hj
      · intro j hj
        rcases I.full j hj with hh | hh
        · exact .inl (List.mem_cons_of_mem _ hh)
        · rw [hr] at hh
          rcases List.mem_cons.1 hh with rfl | hh
          · exact .inl (by simp)
          · exact .inr hh
      · exact Hc (fun j => by simp) (FL g ho k1 I.cur hvd (by simp))
      · exact FL g ho hni I.curS (fun j hj => hvd j (I.sub j hj)) (by simp)
      · intro q hqd hqs
        rcases List.mem_cons.1 hqd with rfl | hqd
        · exact (hqs (.inl rfl)).elim
        · intro o' ho' e he
          have he2 := Ea (fun j hj => hvd j (I.before hqd j hj)) he
          obtain ⟨gg, g1, g2, g3⟩ := hfine q hqd (fun hh => hqs (.inr hh)) o' ho' e he2
          have : (if q = i then v else val q) = val q := hvd q hqd
          exact ⟨gg, g1, fun hg => by simp only [this]; exact g2 hg, fun hg => by simp only [this]; exact g3 hg⟩
    unfold guarded at hrun
    split at hrun
    · rename_i gg hg
      refine Kx Av hok hre hs (g := gg) (by rw [← hl, s1]; exact hg) (Kv := fun v h' => (∀ q ∈ pd, stays P l q (ec.putO o.dst v) h') ∧ Jy P W0 l r (ec.putO o.dst v) h' Q) ?_ ?_ ?_
      · intro hgg; rw [Nn _ s2]; exact hrun.1 hgg
      · rintro hgg v h' ⟨hst, hrn⟩ ι' v' w' hle' hs' hre'
        refine next v h' ι' _ w' hrn ?_ hle' hs' hre'
        intro q hqd hqs o' ho' e he
        obtain ⟨g0, g1, g2, g3⟩ := I.pend q hqd hqs o' ho' e he
        have hqE : CE P o'.op = true := by
          have : effO P l q = false := by
            cases hh : effO P l q with
            | false => rfl
            | true => exact (hqs (I.effs q hqd hh)).elim
          simpa [effO, ho'] using this
        refine ⟨g0, g1, fun hg0 => ?_, g3⟩
        have hold := g2 hg0
        cases hp : KZ P o'.op with
        | true => exact (Ey hqE hold).2 hp h'
        | false =>
          have hstale : HE P l q = true := by simp [HE, ho', hp]
          have hqpd : q ∈ pd := by
            rcases kp q hqd hstale with hh | hh
            · exact hh
            · exact (hqs (Md I.closed dn _ hb q hh)).elim
          -- the environment behind it looks the same to q
          have hagq : FM l q val e0 (ec.putO o.dst v) := by
            intro t ht
            have hno : o.dst ≠ some t := by
              intro hdt
              have hdi : Ba l i = some t := by rw [C8, ho]; exact hdt
              exact k1 (I.before hqd i (kd q hqpd t ht i (.inl rfl) hdi))
            have hput : ec.putO o.dst v t = ec t := by
              cases hdo : o.dst with
              | none => rfl
              | some d => simp [Env.putO, Env.put]; intro htd; subst htd; exact absurd hdo hno
            rw [hput]
            exact ⟨fun j hj hdj => (I.cur t).1 j (I.before hqd j hj) hdj, fun hno2 => (I.cur t).2 fun j hj hdj => hno2 j (kd q hqpd t ht j (.inr hj) hdj) hdj⟩
          obtain ⟨q1, q2⟩ := Fj ho' (GG he hagq)
          have hs3 := hst q hqpd
          unfold stays at hs3
          rw [ho'] at hs3
          simp only at hs3
          rw [← q1, g1, hg0] at hs3
          simp only at hs3
          rw [← Fi _ q2] at hs3
          cases hdq : o'.dst with
          | none =>
            rw [hdq] at hs3
            exact hs3.elim
          | some d =>
            rw [hdq] at hs3
            simp only at hs3
            have hval : ec.putO o.dst v d = val q := by
              have hdq' : Ba l q = some d := by rw [C8, ho']; exact hdq
              have hno : o.dst ≠ some d := by
                intro hdd
                have hdi : Ba l i = some d := by rw [C8, ho]; exact hdd
                exact k1 ((Ml g hdi hdq') ▸ hqd)
              have hput : ec.putO o.dst v d = ec d := by
                cases hdo : o.dst with
                | none => rfl
                | some d' => simp [Env.putO, Env.put]; intro htd; subst htd; exact absurd hdo hno
              rw [hput]; exact (I.cur d).1 q hqd hdq'
            rw [hval] at hs3; exact hs3
      · intro hgg hre'
        refine next undef h ι _ w (hrun.2 hgg) (fun q hqd hqs => I.pend q hqd hqs) (Ren.le_refl _) hs hre'
    · cases hrun
end
end Go.Ai
namespace Go.Ai
variable {P : Program} {W0 : World}
theorem Mk {X : Nat → Prop} : ∀ (l : List Nat), (∃ q ∈ l, ¬ X q) → ∃ d1 q d2, l = d1 ++ q :: d2 ∧ ¬ X q ∧ ∀ j ∈ d2, X j
 | [], h => by obtain ⟨q, hq, _⟩ := h; cases hq
 | x :: l, h => by
  by_cases hl : ∃ q ∈ l, ¬ X q
  ·obtain ⟨d1, q, d2, h1, h2, h3⟩ := Mk l hl
   exact ⟨x :: d1, q, d2, by rw [h1]; rfl, h2, h3⟩
  ·obtain ⟨q, hq, hx⟩ := h
   rcases List.mem_cons.1 hq with rfl | hq
   ·exact ⟨[], q, l, rfl, hx, fun j hj => Classical.not_not.1 fun hn => hl ⟨j, hj, hn⟩⟩
   ·exact (hl ⟨q, hq, hx⟩).elim
section
variable {l : List Oper} {nt : Nat} {e0 : Env} {Q : QT} {ι0 : Ren} {S : Nat → Prop} {dn : List Nat} {rest : List (Nat × List Nat)} {val : Nat → Value} {ec es : Env} {h : Heap} {a : Act} {w : World}
theorem Inv.exists_ready (I : Inv P W0 l nt e0 Q ι0 S dn rest val ec es h a w) (hex : ∃ i, i < l.length ∧ ¬ S i) : ∃ i, i < l.length ∧ ¬ S i ∧ ∀ j ∈ EM l i, S j := by
 by_cases hd : ∃ q ∈ dn, ¬ S q
 ·obtain ⟨d1, q, d2, h1, h2, h3⟩ := Mk dn hd
  exact ⟨q, I.inb q (by rw [h1]; simp), h2, fun j hj => h3 j (I.topo d1 q d2 h1 j hj)⟩
 ·have hall : ∀ q ∈ dn, S q := fun q hq => Classical.not_not.1 fun hn => hd ⟨q, hq, hn⟩
  obtain ⟨i, hi, hn⟩ := hex
  have hir := (I.full i hi).resolve_left fun hh => hn (hall i hh)
  cases hrest : rest with
  | nil => rw [hrest] at hir; cases hir
  | cons p r =>
   obtain ⟨k, pd⟩ := p
   obtain ⟨k1, k2, k3, _⟩ := I.head hrest
   exact ⟨k, k2, fun hh => k1 (I.sub k hh), fun j hj => hall j (k3 j hj)⟩
theorem Inv.finish (I : Inv P W0 l nt e0 Q ι0 S dn rest val ec es h a w) (hall : ∀ i, i < l.length → S i) : G6 P W0 nt ι0 Q .normal a w := by
 have hr : rest = [] := by
  cases hrest : rest with
  | nil => rfl
  | cons p r =>
   obtain ⟨k, pd⟩ := p
   obtain ⟨k1, k2, _⟩ := I.head hrest
   exact (k1 (I.sub k (hall k k2))).elim
 have hrun := I.run
 rw [hr] at hrun
 simp only [Jy] at hrun
 have hee : ec = es := Wo I.cur (Hc (fun j => ⟨fun hj => I.sub j hj, fun hj => hall j (I.inb j hj)⟩) I.curS)
 obtain ⟨ι, h1, h2, h3⟩ := I.sim
 exact ⟨.normal, es, h, ι, rfl, h1, h2, h3, hee ▸ hrun⟩
theorem mem_ready {ops : Array Oper} {listed : Array Bool} (hs : listed.size = ops.size) {i : Nat} : i ∈ Region.ready .any ops listed ↔ i < ops.size ∧ listed.getD i false = false ∧ ∀ j ∈ EM ops.toList i, listed.getD j false = true := by
 unfold Region.ready EM
 rw [List.mem_filter, List.mem_range, Bool.and_eq_true]
 constructor
 ·rintro ⟨h1, h2, h3⟩
  have ho : ops[i]? = some ops[i] := Array.getElem?_eq_getElem h1
  refine ⟨h1, by simp [Array.getD_eq_getD_getElem?, Array.getElem?_eq_getElem (show i < listed.size by omega)] at h2 ⊢; exact h2, ?_⟩
  rw [ho] at h3
  rw [Array.getElem?_toList, ho]
  simp only [Option.map_some, Option.getD_some] at h3 ⊢
  intro j hj
  obtain ⟨e, he, rfl⟩ := List.mem_map.1 hj
  obtain ⟨he1, he2⟩ := List.mem_filter.1 he
  have := Array.all_eq_true_iff_forall_mem.1 h3 e (by simpa using he1)
  simpa [he2] using this
 ·rintro ⟨h1, h2, h3⟩
  have ho : ops[i]? = some ops[i] := Array.getElem?_eq_getElem h1
  refine ⟨h1, by simp [Array.getD_eq_getD_getElem?, Array.getElem?_eq_getElem (show i < listed.size by omega)] at h2 ⊢; exact h2, ?_⟩
  rw [Array.getElem?_toList, ho] at h3
  rw [ho]
  simp only [Option.map_some, Option.getD_some] at h3 ⊢
  refine Array.all_eq_true_iff_forall_mem.2 fun e he => ?_
  cases hb : Region.binds .any e with
  | false => simp
  | true => simpa using h3 e.on (List.mem_map.2 ⟨e, List.mem_filter.2 ⟨by simpa using he, hb⟩, rfl⟩)
theorem Inv.any {ops : Array Oper} (hl : l = ops.toList) (hoks : ∀ o ∈ l, E1 nt o = true) (g : JQ l = true) : ∀ (fuel : Nat) (listed : Array Bool) (dn : List Nat) (rest : List (Nat × List Nat)) (val : Nat → Value) (ec es : Env) (h : Heap) (a : Act) (w : World),
    listed.size = ops.size → ((List.range l.length).filter fun i => !(listed.getD i false)).length ≤ fuel →
    Inv P W0 l nt e0 Q ι0 (fun i => listed.getD i false = true) dn rest val ec es h a w → wpAny P .any ops (G6 P W0 nt ι0 Q) fuel listed a w := by
  have hlen : l.length = ops.size := by rw [hl]; simp
  intro fuel
  induction fuel with
  | zero =>
    intro listed dn rest val ec es h a w hsz hf I
    have hall : ∀ i, i < l.length → listed.getD i false = true := by
      intro i hi
      have : i ∉ (List.range l.length).filter fun i => !(listed.getD i false) := by
        rw [List.eq_nil_of_length_eq_zero (Nat.le_zero.1 hf)]; simp
      simpa [List.mem_filter, hi] using this
    refine ⟨?_, I.finish hall⟩
    rw [List.eq_nil_iff_forall_not_mem]
    intro i hi
    obtain ⟨h1, h2, _⟩ := (mem_ready hsz).1 hi
    rw [hall i (by omega)] at h2; cases h2
  | succ fuel ih =>
    intro listed dn rest val ec es h a w hsz hf I
    constructor
    · intro hr
      refine I.finish fun i hi => Classical.not_not.1 fun hn => ?_
      obtain ⟨k, h1, h2, h3⟩ := I.exists_ready ⟨i, hi, hn⟩
      have : k ∈ Region.ready .any ops listed := (mem_ready hsz).2 ⟨by omega, by simpa using h2, by rw [← hl]; exact h3⟩
      rw [hr] at this; cases this
    · intro i hi
      obtain ⟨h1, h2, h3⟩ := (mem_ready hsz).1 hi
      obtain ⟨dn', rest', val', ec', I', hhd⟩ := I.ahead g
      refine wpOp_mono ?_ (I'.step (QQ := G6 P W0 nt ι0 Q) hl hoks g hhd (by omega) (by simp [h2]) (by rw [hl]; exact h3))
      rintro a' w' ⟨dn2, rest2, val2, ec2, es2, h2', I2⟩
      have hS : (fun j => j = i ∨ listed.getD j false = true) = fun j => (listed.setIfInBounds i true).getD j false = true := by
        funext j
        simp only [Array.getD_eq_getD_getElem?, Array.getElem?_setIfInBounds]
        by_cases hj : i = j
        · subst hj; simp [show i < listed.size by omega]
        · have hj' : ¬ j = i := fun e => hj e.symm
          simp [hj, hj']
      rw [hS] at I2
      refine ih _ _ _ _ _ _ _ _ _ (by simpa using hsz) ?_ I2
      have hfe : ((List.range l.length).filter fun j => !((listed.setIfInBounds i true).getD j false)) = ((List.range l.length).filter fun j => !(listed.getD j false)).filter fun j => decide (j ≠ i) := by
        rw [List.filter_filter]
        apply List.filter_congr
        intro j _
        have := congrFun hS j
        by_cases hj : j = i
        · subst hj; simp [Array.getD_eq_getD_getElem?, show j < listed.size by omega]
        · have e1 : (listed.setIfInBounds i true).getD j false = listed.getD j false := by
            simp only [Array.getD_eq_getD_getElem?, Array.getElem?_setIfInBounds, if_neg (fun hh : i = j => hj hh.symm)]
          rw [e1]; simp [hj]
      rw [hfe]
      have hlt : (((List.range l.length).filter fun j => !(listed.getD j false)).filter fun j => decide (j ≠ i)).length < ((List.range l.length).filter fun j => !(listed.getD j false)).length := by
        rw [List.length_filter_lt_length_iff_exists]
        exact ⟨i, List.mem_filter.2 ⟨by simp; omega, by simp [h2]⟩, by simp⟩
      omega
end
def DQ (P : Program) (W0 : World) : DT := fun l e h Q => ∃ p, Ij P l p = true ∧ Jy P W0 l p e h Q
theorem X0 {nt : Nat} (hm : P.follows .mixedOrders = true) : MX P W0 nt (DQ P W0) fun _ => true := by
 intro id ops e h Q hoks _ hD ι a w hs hr
 obtain ⟨p, hp, hrun⟩ := hD
 simp only [Ij, Bool.and_eq_true] at hp
 obtain ⟨g, hfull, hchk⟩ := hp
 refine wp_region_any hm ?_
 have hs' : CU P W0 ι h { w with drawn := w.drawn + 1 } := ⟨hs.base, hs.size, hs.dom, hs.own, hs.live, hs.wr, hs.ro, hs.nle, hs.inj, hs.cell, hs.env⟩
 have hrep : ∀ i, (Array.replicate ops.size false).getD i false = false := by
  intro i; simp only [Array.getD_eq_getD_getElem?, Array.getElem?_replicate]; split <;> rfl
 refine Inv.any (l := ops.toList) (e0 := e) rfl hoks g ops.size _ [] p (fun _ => undef) e e h a _ (by simp) ?_ ?_
 ·refine Nat.le_trans (List.length_filter_le _ _) (by simp)
 ·refine ⟨?_, ?_, ?_, ?_, ?_, ?_, hchk, ?_, ?_, ?_, hrun, ι, Ren.le_refl _, hs', hr⟩
  ·intro i hi; simp only [hrep] at hi; cases hi
  ·intro i hi; simp only [hrep] at hi; cases hi
  ·intro i hi; cases hi
  ·intro d1 q d2 hd; cases d1 <;> cases hd
  ·intro i hi; cases hi
  ·intro i hi
   have := List.all_eq_true.1 hfull i (by simpa using hi)
   exact .inr (by simpa using this)
  ·intro t; exact ⟨fun j hj => (by cases hj), fun _ => rfl⟩
  ·intro t; exact ⟨fun j hj => (by simp only [hrep] at hj; cases hj), fun _ => rfl⟩
  ·intro q hq; cases hq
end Go.Ai
namespace Go.Ai
variable {P : Program} {W0 : World} {e : Env} {h : Heap} {Q : QT} {K : KT}
def GD (P : Program) (W0 : World) (l : List Oper) (p : List (Nat × List Nat)) (e : Env) (h : Heap) (Q : QT) (_ : Ar (l, p, e, h, Q)) : Prop := Jy P W0 l p e h Q
def Zo (l : List Oper) (i : Nat) (_ : Ar l) : Option Oper := l[i]?
theorem iD {o : Oper} {l : List Oper} : Zo (o :: l) 0 .mk = some o := rfl
theorem iF {o : Oper} {l : List Oper} {i : Nat} : Zo (o :: l) (i + 1) .mk = Zo l i .mk := by simp [Zo]
def rK (P : Program) (W0 : World) (l : List Oper) (pd : List Nat) (r : List (Nat × List Nat)) (d : Option Tmp) (e : Env) (Q : QT) : KT :=
 fun v h' => (∀ q ∈ pd, stays P l q (e.putO d v) h') ∧ Jy P W0 l r (e.putO d v) h' Q
def R0 (P : Program) (W0 : World) (l : List Oper) (o : Option Oper) (pd : List Nat) (r : List (Nat × List Nat)) (e : Env) (h : Heap) (Q : QT) (_ : Ar (l, pd, r, e, h, Q)) : Prop := match o with
 | none => False
 | some o => guarded (guardOf l e o.guard) (H8 P W0 e h o.op (rK P W0 l pd r o.dst e Q)) (Jy P W0 l r (e.putO o.dst undef) h Q)
theorem On {l : List Oper} : GD P W0 l [] e h Q .mk = qz Q .normal e h .mk := rfl
theorem LW {l : List Oper} {i : Nat} {pd : List Nat} {r : List (Nat × List Nat)} : GD P W0 l ((i, pd) :: r) e h Q .mk = R0 P W0 l (Zo l i .mk) pd r e h Q .mk := rfl
theorem Ma {l : List Oper} {pd : List Nat} {r : List (Nat × List Nat)} {d : Option Tmp} {o : Op} {t : TypeId} {p : String} {a : Array Edge} :
  R0 P W0 l (some ⟨d, o, t, p, a, none⟩) pd r e h Q .mk = xz P W0 o e h (rK P W0 l pd r d e Q) .mk := by
 show gate true (H8 P W0 e h o (rK P W0 l pd r d e Q)) _ = H8 P W0 e h o (rK P W0 l pd r d e Q)
 simp only [gate]; exact propext ⟨fun hh => hh.1 trivial, fun hh => ⟨fun _ => hh, fun hf => absurd hf (by simp)⟩⟩
theorem kr {l : List Oper} {r : List (Nat × List Nat)} {d : Option Tmp} {v : Value} : kz (rK P W0 l [] r d e Q) v h .mk = GD P W0 l r (e.putO d v) h Q .mk := by
 simp [kz, rK, GD]
theorem AO {cp : Nat → Option (List Nat)} {l : List Oper} (p : List (Nat × List Nat)) (hp : Ij P l p = true) (hr : GD P W0 l p e h Q .mk) : bY ⟨DQ P W0, cp⟩ l e h Q .mk := ⟨p, hp, hr⟩
theorem start (cp : List (List Nat)) {f : FuncId} {fn : Func} {c : Code} (hm : P.follows .mixedOrders = true) (hf : P.funcs[f]? = some fn) (hb : fn.body = some c)
    (hn : (fn.name != "runtime.NumGoroutine") = true) (hok : Bc fn.ntmps (fun _ => true) c = true) {rs : List ResultVar} (hrs : fn.results.toList = rs) {args : List Value} {nt : Nat} (hnt : fn.ntmps = nt) (hlen : args.length ≤ nt)
    (hv : cz P W0 ⟨DQ P W0, SV cp⟩ c (DE args) h (ends P rs K) .mk) : WC P W0 f args h K := XY (D := ⟨DQ P W0, SV cp⟩) (X0 hm) hf hb hn hok hrs hnt hlen hv
attribute [go_sem] iD iF On LW Ma
end Go.Ai
namespace Go.Ai
theorem UT {x : Int} : IntKind.i64.wrap x = if 9223372036854775808 ≤ x % 18446744073709551616 then x % 18446744073709551616 - 18446744073709551616 else x % 18446744073709551616 := by
 simp [IntKind.wrap, IntKind.signed, IntKind.bits]
theorem wrap_i64 {x : Int} (h1 : -9223372036854775808 ≤ x) (h2 : x < 9223372036854775808) : IntKind.i64.wrap x = x := by
 rw [UT]; split <;> omega
theorem wrap_u64 {x : Int} : IntKind.u64.wrap x = x % 18446744073709551616 := by
 simp [IntKind.wrap, IntKind.signed, IntKind.bits]
theorem wrap_u8 {x : Int} : IntKind.u8.wrap x = x % 256 := by
 simp [IntKind.wrap, IntKind.signed, IntKind.bits]
end Go.Ai
namespace Go.Ai
variable {P : Program} {W0 : World} {D : ID} {e : Env} {h : Heap} {Q : QT} {K : KT}
theorem Heap.le.keep {h h' : Heap} (l : h.le h') : ∀ b, b < hn h .mk → hg h' b .mk = hg h b .mk := fun b hb => l.2 b hb
theorem Heap.le.n {h h' : Heap} (l : h.le h') : hn h .mk ≤ hn h' .mk := l.1
theorem hP {a b : Nat} (h : a < b) : (a < b + 1) = True := eq_true (by omega)
theorem Wz {a : Nat} : (a < a + 1) = True := eq_true (by omega)
theorem dY {a : Nat} : (a + 1 == a) = false := by simp
theorem cD {a : Nat} : (a + 1 + 1 == a) = false := by simp; omega
theorem cg {a : Nat} : (a + 1 + 1 + 1 == a) = false := by simp; omega
theorem cb {a : Nat} : (a + 1 + 1 + 1 + 1 == a) = false := by simp; omega
theorem dy {a b : Nat} : (a + 1 == b + 1) = (a == b) := by rw [Bool.eq_iff_iff]; simp
theorem dp {a : Nat} : (a == a + 1) = false := by simp
theorem db {a : Nat} : (a == a + 1 + 1) = false := by simp; omega
theorem dT {a : Nat} : (a == a + 1 + 1 + 1) = false := by simp; omega
theorem cf {a : Nat} : (a == a + 1 + 1 + 1 + 1) = false := by simp; omega
theorem CF {h h' : Heap} {b : Nat} {k : KP} (l : h.le h') (hb : hn h .mk ≤ b) : h.le (h'.set b k) :=
  ⟨l.1, fun c hc => by have : ¬ c = b := by unfold hn at hb; omega
                       simp only [Heap.set, if_neg this]; exact l.2 c hc⟩
theorem le_push {h h' : Heap} {k : KP} (l : h.le h') : h.le (h'.push k) := Heap.le_trans l (Heap.le_push _ _)
theorem JF {h h' : Heap} {b : Nat} (l : h.le h') (hb : hn h .mk ≤ b) : h.le (h'.kill b) :=
  ⟨l.1, fun c hc => by have : ¬ c = b := by unfold hn at hb; omega
                       simp only [Heap.kill, if_neg this]; exact l.2 c hc⟩
def JW (h : Heap) (a : Option Addr) (n : Nat) (xs : List Value) : Prop :=
 n = xs.length ∧ ∀ i, i < n → ∃ b off w z cs, a = some ⟨b, off, none⟩ ∧ hg h b .mk = some ⟨w, z, cs⟩ ∧ b < hn h .mk ∧ cs[off + i]? = xs[i]?
theorem JW.mono {h h' : Heap} {a : Option Addr} {n : Nat} {xs : List Value} (r : JW h a n xs) (l : h.le h') : JW h' a n xs :=
 ⟨r.1, fun i hi => by
  obtain ⟨b, off, w, z, cs, h1, h2, h3, h4⟩ := r.2 i hi
  exact ⟨b, off, w, z, cs, h1, by rw [l.keep b h3]; exact h2, Nat.lt_of_lt_of_le h3 l.n, h4⟩⟩
theorem rep_one {n : Nat} {v : Value} : repL n [v] = List.replicate n v := by
 induction n with
 | zero => rfl
 | succ n ih => rw [Wd, ih]; rfl
attribute [go_sem] hP Wz dY cD cg cb dy dp db dT cf
end Go.Ai
namespace Go.Ai
variable {P : Program} {W0 : World} {D : ID} {e : Env} {h : Heap} {Q : QT} {K : KT}
def AP : Value → Option Nat
 | .slice (some a) _ _ => some a.block
 | _ => none
def Own (N : Nat) (h : Heap) (v : Value) (z n : Nat) (cs : List Value) : Prop :=
 cs.length = n * z ∧ ∃ a c, v = .slice a n c ∧ ((a = none ∧ n = 0) ∨ ∃ b, a = some ⟨b, 0, none⟩ ∧ N ≤ b ∧ b < hn h .mk ∧ hg h b .mk = some ⟨true, z, cs⟩)
theorem Own.keep {N : Nat} {h h' : Heap} {v : Value} {z n : Nat} {cs : List Value} (o : Own N h v z n cs) (l : h.le h') : Own N h' v z n cs := by
 obtain ⟨h1, a, c, h2, h3⟩ := o
 refine ⟨h1, a, c, h2, h3.imp_right ?_⟩
 rintro ⟨b, e1, e2, e3, e4⟩
 exact ⟨b, e1, e2, Nat.lt_of_lt_of_le e3 l.n, by rw [l.keep b e3]; exact e4⟩
theorem Own.nil {N : Nat} {h : Heap} {z c : Nat} : Own N h (.slice none 0 c) z 0 [] := ⟨by simp, none, c, rfl, .inl ⟨rfl, rfl⟩⟩
theorem DO {t u T z y N n b2 c2 z2 : Nat} {w2 : Bool} {zs cs news : List Value} {x : Value} (he : elt? P t = some (T, z + 1, y)) (hz : zr? P T = some zs) (hl : zs.length = z + 1) (hu : cls? P u = some .sl)
  (hx : Own N h x (z + 1) n cs) (hN0 : N ≤ hn h .mk) (hn0 : (n + 1) * (y + 1) ≤ most) (h2 : hg h b2 .mk = some ⟨w2, z2, news⟩) (hnl : news.length = z + 1) (hok : news.all FZ = true)
  (hk : ∀ v' h', Own N h' v' (z + 1) (n + 1) (cs ++ news) → hn h .mk ≤ hn h' .mk → (∀ h0 : Heap, hn h0 .mk ≤ N → h0.le h → h0.le h') → (∀ b, b < hn h .mk → AP x ≠ some b → hg h' b .mk = hg h b .mk) → kz K v' h' .mk) :
  az (EN P h .append [t, u] [x, .slice (some ⟨b2, 0, none⟩) 1 c2] .mk) K .mk := by
 obtain ⟨hlen, a, c, rfl, hcase⟩ := hx
 have h2' : h.get b2 = some ⟨w2, z2, news⟩ := h2
 have hrd : rd news 0 (1 * (z + 1)) = some news := by rw [Gi]; omega
 rcases hcase with ⟨rfl, rfl⟩ | ⟨b, rfl, hNb, hbn, hb⟩
 ·have hcs : cs = [] := List.eq_nil_of_length_eq_zero (by omega)
  subst hcs
  have e1 : EN P h .append [t, u] [.slice none 0 c, .slice (some ⟨b2, 0, none⟩) 1 c2] .mk = some (.slice (some ⟨h.n, 0, none⟩) 1 1, h.push ⟨true, z + 1, news⟩) := by
   simp only [EN, BX, hu, if_true, EX, he, Oj, h2', hrd, Option.map_some, hz]
   rw [if_pos ⟨hl, hn0, hok⟩, if_neg (by decide)]
  rw [e1]
  have hmk : (h.n == h.n) = true := by simp
  refine hk _ _ ⟨by simp; omega, _, _, rfl, .inr ⟨h.n, rfl, ?_, ?_, ?_⟩⟩ ?_ ?_ ?_
  ·exact hN0
  ·simp [hn, Heap.push]
  ·simp [hg, Heap.push]
  ·simp [hn, Heap.push]
  ·intro h0 _ l0; exact le_push l0
  ·intro b' hb' _
   simp only [hg, Heap.push]; rw [if_neg (by unfold hn at hb'; omega)]
 ·have hb' : h.get b = some ⟨true, z + 1, cs⟩ := hb
  have e1 : EN P h .append [t, u] [.slice (some ⟨b, 0, none⟩) n c, .slice (some ⟨b2, 0, none⟩) 1 c2] .mk = some (.slice (some ⟨h.n, 0, none⟩) (n + 1) (n + 1), (h.kill b).push ⟨true, z + 1, cs ++ news⟩) := by
   simp only [EN, BX, hu, if_true, EX, he, Oj, h2', hrd, Option.map_some, hz, hb']
   rw [if_pos ⟨hl, hn0, hok⟩, if_neg (by decide), if_pos ⟨trivial, trivial, trivial⟩, Gi hlen]
   rfl
  rw [e1]
  have hne : ¬ b = h.n := by unfold hn at hbn; omega
  refine hk _ _ ⟨by simp [hlen, hnl, Nat.add_mul], _, _, rfl, .inr ⟨h.n, rfl, ?_, ?_, ?_⟩⟩ ?_ ?_ ?_
  ·unfold hn at hbn; omega
  ·simp [hn, Heap.push, Heap.kill]
  ·simp [hg, Heap.push, Heap.kill]
  ·simp [hn, Heap.push, Heap.kill]
  ·intro h0 hN l0; exact le_push (JF l0 (by omega))
  ·intro b' hb2 hne'
   have hbb : ¬ b' = b := fun e => hne' (by rw [e]; rfl)
   have h5 : ¬ b' = h.n := by unfold hn at hb2; omega
   simp [hg, Heap.push, Heap.kill, h5, hbb]
theorem append_push {t u T z y N n c2 z2 : Nat} {zs cs news : List Value} {x : Value} (he : elt? P t = some (T, z + 1, y)) (hz : zr? P T = some zs) (hl : zs.length = z + 1) (hu : cls? P u = some .sl)
  (hx : Own N h x (z + 1) n cs) (hN0 : N ≤ hn h .mk) (hn0 : (n + 1) * (y + 1) ≤ most) (hnl : news.length = z + 1) (hok : news.all FZ = true)
  (hk : ∀ v' h', Own N h' v' (z + 1) (n + 1) (cs ++ news) → hn h .mk ≤ hn h' .mk → (∀ h0 : Heap, hn h0 .mk ≤ N → h0.le h → h0.le h') → (∀ b, b < hn h .mk → AP x ≠ some b → hg h' b .mk = hg h b .mk) → kz K v' h' .mk) :
  az (EN P (h.push ⟨true, z2, news⟩) .append [t, u] [x, .slice (some ⟨hn h .mk, 0, none⟩) 1 c2] .mk) K .mk := by
 have hl1 : hn (h.push ⟨true, z2, news⟩) .mk = hn h .mk + 1 := rfl
 refine DO he hz hl hu (hx.keep (Heap.le_push _ _)) (by omega) hn0 (b2 := hn h .mk) (w2 := true) (z2 := z2) (news := news) ?_ hnl hok ?_
 ·rw [Ap, show (hn h .mk == hn h .mk) = true by simp]; rfl
 ·intro v' h' h1 h2 h3 h4
  refine hk v' h' h1 (by omega) (fun h0 hN l => h3 h0 hN (le_push l)) fun b hb hne => ?_
  rw [h4 b (by omega) hne]
  exact (Heap.le_push h _).keep b hb
end Go.Ai
end
