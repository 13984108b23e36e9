/- Deep values, part 5: what code must meet, in terms of deep values; calls, regions, loops, whole functions. Nothing about the program stands here. -/
import Derived.Test.YtdakdjpndomdpaaBi4
import Derived.Test.YtdakdjpndomdpaaAi16
set_option linter.unusedVariables false
set_option linter.unusedSimpArgs false
namespace Go.Bi
open Go.Ai
variable {P : Program} {W0 : World}

/-- A call comes back, and what it hands back, and one's own rows then, are as told. -/
def WC2 (P : Program) (W0 : World) (f : FuncId) (xs : List X) (g : H2) (K : X → H2 → Prop) : Prop :=
  ∀ h, S g h → (∀ x ∈ xs, Ok h g x) → WC P W0 f (xs.map er) h fun v h' => ∃ x g', v = er x ∧ S g' h' ∧ Ext g h g' h' ∧ Ok h' g' x ∧ K x g'
theorem WC2.mono {f : FuncId} {xs : List X} {g : H2} {K K' : X → H2 → Prop} (c : WC2 P W0 f xs g K) (hk : ∀ x g', K x g' → K' x g') : WC2 P W0 f xs g K' :=
  fun h s o => (c h s o).mono fun v h' ⟨x, g', h1, h2, h3, h4, h5⟩ => ⟨x, g', h1, h2, h3, h4, hk _ _ h5⟩

abbrev Q2 := Ex → E2 → H2 → Prop
def callX (e : E2) : Op → Option (FuncId × List X)
  | .call { callee := .value f, args := xs, argTypes := _ } =>
    match e.op f with
    | .raw (.func (.func g) first caps) => if first.size = 0 then some (g, xs.toList.map e.op ++ caps.toList.map .raw) else none
    | _ => none
  | _ => none
def bitX (want : Bool) : X → Option Bool
  | .raw (.bool b) => some (b == want)
  | .raw (.tuple _) => some false
  | _ => none
def guardX (ops : List Oper) (e : E2) : Option (Nat × Bool) → Option Bool
  | none => some true
  | some (j, want) => match dstAt ops j with
    | none => some false
    | some t => bitX want (e t)
def thenX (r : Option (X × H2)) (K : X → H2 → Prop) : Prop := match r with | some (v, g) => K v g | none => False
def opO2 (P : Program) (W0 : World) (e : E2) (g : H2) (o : Op) (K : X → H2 → Prop) : Prop :=
  match callX e o with
  | some (f, args) => WC2 P W0 f args g K
  | none => thenX (opx P e g o) K
def vcO2 (P : Program) (W0 : World) (ops : List Oper) : List Oper → E2 → H2 → Q2 → Prop
  | [], e, g, Q => Q .normal e g
  | o :: r, e, g, Q => guarded (guardX ops e o.guard) (opO2 P W0 e g o.op fun v g' => vcO2 P W0 ops r (e.putO o.dst v) g' Q) (vcO2 P W0 ops r (e.putO o.dst (.raw undef)) g Q)
def staysX (P : Program) (l : List Oper) (q : Nat) (e : E2) (g : H2) : Prop := match l[q]? with
  | none => True
  | some o => match guardX l e o.guard with
    | some true => (match o.dst with | some d => quietO P o.op = true ∧ opx P e g o.op = some (e d, g) | none => False)
    | some false => True
    | none => False
def runX (P : Program) (W0 : World) (l : List Oper) : List (Nat × List Nat) → E2 → H2 → Q2 → Prop
  | [], e, g, Q => Q .normal e g
  | (i, pd) :: r, e, g, Q => match l[i]? with
    | none => False
    | some o => guarded (guardX l e o.guard) (opO2 P W0 e g o.op fun v g' => (∀ q ∈ pd, staysX P l q (e.putO o.dst v) g') ∧ runX P W0 l r (e.putO o.dst v) g' Q) (runX P W0 l r (e.putO o.dst (.raw undef)) g Q)
def seqQ2 (K : E2 → H2 → Prop) (Q : Q2) : Q2
  | .normal, e, g => K e g
  | .ret, e, g => Q .ret e g
  | .exit j, e, g => Q (.exit j) e g
def blockQ2 (id : Nat) (Q : Q2) : Q2
  | .normal, e, g => Q .normal e g
  | .ret, e, g => Q .ret e g
  | .exit j, e, g => if j = id then Q .normal e g else Q (.exit j) e g
def loopQ2 (I : Nat → E2 → H2 → Prop) (n : Nat) (Q : Q2) : Q2
  | .normal, e, g => ∃ m, m < n ∧ I m e g
  | .ret, e, g => Q .ret e g
  | .exit j, e, g => Q (.exit j) e g
def condX (v : X) (A B : Prop) : Prop := match v with | .raw (.bool b) => gate b A B | _ => False
def cut2 : Option (List Nat) → E2 → E2
  | none, e => e
  | some ks, e => fun t => if ks.contains t then e t else .raw hole
def vcC2 (P : Program) (W0 : World) (cp : Nat → Option (List Nat)) : Code → E2 → H2 → Q2 → Prop
  | .skip, e, g, Q => Q .normal e g
  | .region id ops false, e, g, Q => vcO2 P W0 ops.toList ops.toList (cut2 (cp id) e) g Q
  | .region id ops true, e, g, Q => ∃ p, okPlan P ops.toList p = true ∧ runX P W0 ops.toList p (cut2 (cp id) e) g Q
  | .seq a b, e, g, Q => vcC2 P W0 cp a e g (seqQ2 (fun e g => vcC2 P W0 cp b e g Q) Q)
  | .cond c t f, e, g, Q => condX (e.op c) (vcC2 P W0 cp t e g Q) (vcC2 P W0 cp f e g Q)
  | .block id b, e, g, Q => vcC2 P W0 cp b e g (blockQ2 id Q)
  | .loop b, e, g, Q => ∃ (I : Nat → E2 → H2 → Prop) (n : Nat), I n e g ∧ ∀ n e g, I n e g → vcC2 P W0 cp b e g (loopQ2 I n Q)
  | .exit id, e, g, Q => Q (.exit id) e g
  | .ret, e, g, Q => Q .ret e g
  | _, _, _, _ => False
def resX (P : Program) (g : H2) (e : E2) : List ResultVar → Option (List X)
  | [] => some []
  | .tmp t :: r => match resX P g e r with
    | some l => some (e t :: l)
    | none => none
  | .cell a t :: r => match loadX P g t (e a), resX P g e r with
    | some v, some l => some (v :: l)
    | _, _ => none
def isTpX : X → Bool
  | .tp _ => true
  | .raw (.tuple _) => true
  | _ => false
def outX (l : List X) : Option X := match l with
  | [v] => some v
  | l => if l.all (fun v => !isTpX v) = true then some (.tp l) else none
def rootX (xs : List X) : E2 := fun t => xs.getD t (.raw undef)
def endX (r : Option (List X)) (g : H2) (K : X → H2 → Prop) : Prop := match r with
  | some l => match outX l with
    | some v => K v g
    | none => False
  | none => False
def endsX (P : Program) (rs : List ResultVar) (K : X → H2 → Prop) : Q2
  | .exit _, _, _ => False
  | .normal, e, g => endX (resX P g e rs) g K
  | .ret, e, g => endX (resX P g e rs) g K

/-! ### Soundness -/
structure Re (g0 : H2) (h0 : Heap) (e : E2) (g : H2) (e' : Env) (h : Heap) : Prop where
  env : e' = e.er
  s : S g h
  x : Ext g0 h0 g h
  ok : ∀ t, Ok h g (e t)
theorem Re.put {g0 g g' : H2} {h0 h h' : Heap} {e : E2} {e' : Env} (r : Re g0 h0 e g e' h) (s : S g' h') (x : Ext g h g' h') {d : Option Nat} {v : X} (ov : Ok h' g' v) : Re g0 h0 (e.putO d v) g' (e'.putO d (er v)) h' := by
  refine ⟨by rw [r.env, er_put], s, r.x.trans x, fun t => ?_⟩
  cases d with
  | none => exact (r.ok t).mono x
  | some d =>
    simp only [E2.putO, E2.put]
    split
    · exact ov
    · exact (r.ok t).mono x
theorem guardX_sound {ops : List Oper} {e : E2} {g : Option (Nat × Bool)} {b : Bool} (hg : guardX ops e g = some b) : guardOf ops e.er g = some b := by
  unfold guardX at hg; unfold guardOf
  split at hg
  · exact hg
  · split at hg
    · rename_i h1; simp only [h1]; exact hg
    · rename_i t h1
      simp only [h1, E2.er]
      unfold bitX at hg
      split at hg
      · rename_i h2; rw [h2]; exact hg
      · rename_i h2; rw [h2]; exact hg
      · cases hg
theorem call_sound2 {e : E2} {o : Op} {f : FuncId} {args : List X} (hc : callX e o = some (f, args)) : callOf e.er o = some (f, args.map er) := by
  unfold callX at hc
  split at hc
  · rename_i fo xs ts
    split at hc
    · rename_i fn first caps hfo
      split at hc
      · rename_i h0
        cases hc
        have : e.er.op fo = .func (.func f) first caps := by rw [← er_op, hfo]; rfl
        simp only [callOf, this, if_pos h0, List.map_append, List.map_map, show (er ∘ e.op) = e.er.op from funext fun x => er_op e x]
        congr 2
        simp [Function.comp_def, er]
      · cases hc
    · cases hc
  · cases hc
theorem opx_noCall {e : E2} {g : H2} {o : Op} {r : X × H2} (hx : opx P e g o = some r) (e' : Env) : callOf e' o = none := by
  unfold opx at hx
  split at hx <;> first | rfl | cases hx
theorem opO_sound2 {g0 g : H2} {h0 h : Heap} {e : E2} {e' : Env} {o : Op} {K : X → H2 → Prop} {K' : Value → Heap → Prop} (r : Re g0 h0 e g e' h) (hv : opO2 P W0 e g o K)
    (hk : ∀ x g' h', S g' h' → Ext g h g' h' → Ok h' g' x → K x g' → K' (er x) h') : opO P W0 e' h o K' := by
  unfold opO2 at hv
  obtain rfl := r.env
  split at hv
  · rename_i f args hc
    unfold opO
    rw [call_sound2 hc]
    refine (hv h r.s fun x hx => ?_).mono fun v h' ⟨x, g', h1, h2, h3, h4, h5⟩ => by rw [h1]; exact hk x g' h' h2 h3 h4 h5
    unfold callX at hc
    split at hc
    · split at hc
      · split at hc
        · cases hc
          rcases List.mem_append.1 hx with hx | hx
          · obtain ⟨q, _, rfl⟩ := List.mem_map.1 hx; exact ok_op r.ok q
          · exact ok_raws x hx
        · cases hc
      · cases hc
    · cases hc
  · unfold thenX at hv
    split at hv
    · rename_i v g' hx
      obtain ⟨h', h1, h2, h3, h4⟩ := opx_sound r.s r.ok hx
      unfold opO
      rw [opx_noCall hx]
      simp only [h1, andThen]
      exact hk v g' h' h2 h3 h4 hv
    · cases hv
abbrev To (g0 : H2) (h0 : Heap) (Q : Q2) (Q' : QT) : Prop := ∀ x e g e' h, Re g0 h0 e g e' h → Q x e g → Q' x e' h
theorem vcO_sound2 {g0 : H2} {h0 : Heap} {ops : List Oper} {Q : Q2} {Q' : QT} (hQ : To g0 h0 Q Q') : ∀ (l : List Oper) (e : E2) (g : H2) (e' : Env) (h : Heap), Re g0 h0 e g e' h → vcO2 P W0 ops l e g Q → vcO P W0 ops l e' h Q'
  | [], e, g, e', h, r, hv => hQ _ _ _ _ _ r hv
  | o :: l, e, g, e', h, r, hv => by
    simp only [vcO2, guarded] at hv
    simp only [vcO, guarded]
    split at hv
    · rename_i b hb
      have := guardX_sound hb
      rw [← r.env] at this
      rw [this]
      refine ⟨fun hbt => ?_, fun hbf => ?_⟩
      · exact opO_sound2 r (hv.1 hbt) fun x g' h' s1 s2 s3 s4 => vcO_sound2 hQ l _ _ _ _ (r.put s1 s2 s3) s4
      · exact vcO_sound2 hQ l _ _ _ _ (r.put r.s Ext.refl .raw) (hv.2 hbf)
    · cases hv
theorem stays_sound2 {g0 g : H2} {h0 h : Heap} {e : E2} {e' : Env} (r : Re g0 h0 e g e' h) {l : List Oper} {q : Nat} (hs : staysX P l q e g) : stays P l q e' h := by
  unfold staysX at hs; unfold stays
  obtain rfl := r.env
  split at hs
  · rename_i h1; simp only [h1]
  · rename_i o h1
    simp only [h1]
    split at hs
    · rename_i hg
      rw [guardX_sound hg]
      simp only
      split at hs
      · rename_i d hd
        obtain ⟨h', o1, _, _, _⟩ := opx_sound r.s r.ok hs.2
        have := (quiet_spec hs.1 o1).1
        simp only [hd]; rw [o1, this]; rfl
      · cases hs
    · rename_i hg; rw [guardX_sound hg]; trivial
    · cases hs
theorem runX_sound {g0 : H2} {h0 : Heap} {l : List Oper} {Q : Q2} {Q' : QT} (hQ : To g0 h0 Q Q') : ∀ (p : List (Nat × List Nat)) (e : E2) (g : H2) (e' : Env) (h : Heap), Re g0 h0 e g e' h → runX P W0 l p e g Q → runP P W0 l p e' h Q'
  | [], e, g, e', h, r, hv => hQ _ _ _ _ _ r hv
  | (i, pd) :: p, e, g, e', h, r, hv => by
    simp only [runX] at hv
    simp only [runP]
    split at hv
    · cases hv
    · rename_i o ho
      unfold guarded at hv ⊢
      split at hv
      · rename_i b hb
        have := guardX_sound hb
        rw [← r.env] at this
        simp only [ho, this]
        refine ⟨fun hbt => ?_, fun hbf => ?_⟩
        · refine opO_sound2 r (hv.1 hbt) fun x g' h' s1 s2 s3 s4 => ?_
          have r' := r.put s1 s2 (d := o.dst) s3
          exact ⟨fun q hq => stays_sound2 r' (s4.1 q hq), runX_sound hQ p _ _ _ _ r' s4.2⟩
        · exact runX_sound hQ p _ _ _ _ (r.put r.s Ext.refl .raw) (hv.2 hbf)
      · cases hv
theorem Re.cut {g0 g : H2} {h0 h : Heap} {e : E2} {e' : Env} (r : Re g0 h0 e g e' h) (o : Option (List Nat)) : Re g0 h0 (cut2 o e) g (cutO o e') h := by
  obtain rfl := r.env
  cases o with
  | none => exact r
  | some ks =>
    refine ⟨?_, r.s, r.x, fun t => ?_⟩
    · funext t; simp only [cutO, cutE, cut2, E2.er]; split <;> rfl
    · simp only [cut2]; split
      · exact r.ok t
      · exact .raw
theorem vcC_sound2 {g0 : H2} {h0 : Heap} {cp : Nat → Option (List Nat)} : ∀ (c : Code) (Q : Q2) (Q' : QT), To g0 h0 Q Q' → ∀ (e : E2) (g : H2) (e' : Env) (h : Heap), Re g0 h0 e g e' h → vcC2 P W0 cp c e g Q → vcC P W0 ⟨DQ P W0, cp⟩ c e' h Q'
  | .skip, Q, Q', hQ, e, g, e', h, r, hv => hQ _ _ _ _ _ r hv
  | .region id ops false, Q, Q', hQ, e, g, e', h, r, hv => vcO_sound2 hQ _ _ _ _ _ (r.cut _) hv
  | .region id ops true, Q, Q', hQ, e, g, e', h, r, hv => by
    obtain ⟨p, h1, h2⟩ := hv
    exact ⟨p, h1, runX_sound hQ _ _ _ _ _ (r.cut _) h2⟩
  | .seq a b, Q, Q', hQ, e, g, e', h, r, hv => by
    refine vcC_sound2 a _ _ ?_ e g e' h r hv
    intro x e g e' h r hq
    cases x with
    | normal => exact vcC_sound2 b Q Q' hQ e g e' h r hq
    | ret => exact hQ _ _ _ _ _ r hq
    | exit j => exact hQ _ _ _ _ _ r hq
  | .cond c t f, Q, Q', hQ, e, g, e', h, r, hv => by
    simp only [vcC2, condX] at hv
    simp only [vcC, condV]
    split at hv
    · rename_i b hb
      have : e'.op c = .bool b := by rw [r.env, ← er_op, hb]; rfl
      rw [this]
      exact ⟨fun hb => vcC_sound2 t Q Q' hQ e g e' h r (hv.1 hb), fun hb => vcC_sound2 f Q Q' hQ e g e' h r (hv.2 hb)⟩
    · cases hv
  | .block id b, Q, Q', hQ, e, g, e', h, r, hv => by
    refine vcC_sound2 b _ _ ?_ e g e' h r hv
    intro x e g e' h r hq
    cases x with
    | normal => exact hQ _ _ _ _ _ r hq
    | ret => exact hQ _ _ _ _ _ r hq
    | exit j =>
      simp only [blockQ2] at hq
      simp only [blockQ]
      split at hq
      · rename_i hj; rw [if_pos hj]; exact hQ _ _ _ _ _ r hq
      · rename_i hj; rw [if_neg hj]; exact hQ _ _ _ _ _ r hq
  | .loop b, Q, Q', hQ, e, g, e', h, r, hv => by
    obtain ⟨I, n, h1, h2⟩ := hv
    refine ⟨fun n e' h => ∃ e g, Re g0 h0 e g e' h ∧ I n e g, n, ⟨e, g, r, h1⟩, ?_⟩
    rintro n e' h ⟨e, g, r, hI⟩
    refine vcC_sound2 b _ _ ?_ e g e' h r (h2 n e g hI)
    intro x e g e' h r hq
    cases x with
    | normal => obtain ⟨m, hm, hq⟩ := hq; exact ⟨m, hm, e, g, r, hq⟩
    | ret => exact hQ _ _ _ _ _ r hq
    | exit j => exact hQ _ _ _ _ _ r hq
  | .exit id, Q, Q', hQ, e, g, e', h, r, hv => hQ _ _ _ _ _ r hv
  | .ret, Q, Q', hQ, e, g, e', h, r, hv => hQ _ _ _ _ _ r hv
  | .rangeFunc .., _, _, _, _, _, _, _, _, hv => by simp [vcC2] at hv
  | .scope .., _, _, _, _, _, _, _, _, hv => by simp [vcC2] at hv
  | .label .., _, _, _, _, _, _, _, _, hv => by simp [vcC2] at hv
  | .goto .., _, _, _, _, _, _, _, _, hv => by simp [vcC2] at hv
  | .refuse .., _, _, _, _, _, _, _, _, hv => by simp [vcC2] at hv
theorem res_sound2 {g0 g : H2} {h0 h : Heap} {e : E2} {e' : Env} (r : Re g0 h0 e g e' h) : ∀ {rs : List ResultVar} {l : List X}, resX P g e rs = some l → resH P h e' rs = some (l.map er) ∧ ∀ x ∈ l, Ok h g x
  | [], l, hl => by simp only [resX] at hl; cases hl; exact ⟨rfl, by simp⟩
  | .tmp t :: rs, l, hl => by
    simp only [resX] at hl
    split at hl
    · rename_i l0 h0
      cases hl
      obtain ⟨h1, h2⟩ := res_sound2 r h0
      simp only [resH, h1]
      exact ⟨by rw [r.env]; rfl, fun x hx => by
        rcases List.mem_cons.1 hx with rfl | hx
        · exact r.ok t
        · exact h2 x hx⟩
    · cases hl
  | .cell a t :: rs, l, hl => by
    simp only [resX] at hl
    split at hl
    · rename_i v l0 hv h0
      cases hl
      obtain ⟨h1, h2⟩ := res_sound2 r h0
      obtain ⟨v1, v2⟩ := load_sound2 r.s (r.ok a) hv
      have : e' a = er (e a) := by rw [r.env]; rfl
      simp only [resH, h1, this, v1]
      exact ⟨rfl, fun x hx => by
        rcases List.mem_cons.1 hx with rfl | hx
        · exact v2
        · exact h2 x hx⟩
    · cases hl
theorem tup_sound {g : H2} {h : Heap} {x : X} (o : Ok h g x) (hx : isTpX x = false) : isTup (er x) = false := by
  cases o with
  | raw => rename_i v; cases v <;> first | rfl | (simp [isTpX] at hx)
  | sl r => obtain ⟨a, c, e⟩ := (Ok.sl r).slV; simp only [er, e]; rfl
  | pr => rfl
  | st => rfl
  | tp => simp [isTpX] at hx
theorem out_sound2 {g : H2} {h : Heap} {l : List X} (o : ∀ x ∈ l, Ok h g x) {x : X} (hx : outX l = some x) : outV (l.map er) = some (er x) ∧ Ok h g x := by
  unfold outX at hx
  split at hx
  · cases hx; exact ⟨rfl, o _ (by simp)⟩
  · rename_i hne
    split at hx
    · rename_i ht
      cases hx
      refine ⟨?_, .tp o⟩
      unfold outV
      split
      · rename_i v hv
        exfalso
        match l, hv with
        | [y], _ => exact hne y rfl
      · rw [if_pos, er, ers_eq]
        rw [List.all_eq_true] at ht ⊢
        intro v hv
        obtain ⟨y, hy, rfl⟩ := List.mem_map.1 hv
        have := ht y hy
        rw [tup_sound (o y hy) (by simpa using this)]; rfl
    · cases hx
theorem er_root (xs : List X) : (rootX xs).er = rootEnv (xs.map er) := by
  funext t
  simp only [E2.er, rootX, rootEnv, List.getD_eq_getElem?_getD, List.getElem?_map]
  cases xs[t]? <;> rfl
theorem WC2_of_body {cp : Nat → Option (List Nat)} (hm : P.follows .mixedOrders = true) {f : FuncId} {fn : Func} {c : Code} (hf : P.funcs[f]? = some fn) (hb : fn.body = some c)
    (hn : (fn.name != "runtime.NumGoroutine") = true) (hok : okCode fn.ntmps (fun _ => true) c = true) {xs : List X} {g : H2} (hlen : xs.length ≤ fn.ntmps) {K : X → H2 → Prop}
    (hv : (∀ b, g.n ≤ b → g.get b = none) → vcC2 P W0 cp c (rootX xs) g (endsX P fn.results.toList K)) : WC2 P W0 f xs g K := by
  intro h s o
  have hwf : ∀ b, g.n ≤ b → g.get b = none := fun b hb => by
    cases hk : g.get b with
    | none => rfl
    | some k => have := (s.row _ _ hk).1; rw [s.n] at hb; omega
  refine WC_of_body (D := ⟨DQ P W0, cp⟩) (sound_DQ hm) hf hb hn hok (by simpa using hlen) ?_
  refine vcC_sound2 (g0 := g) (h0 := h) c _ _ ?_ (rootX xs) g _ h ⟨(er_root xs).symm, s, Ext.refl, fun t => ?_⟩ (hv hwf)
  · intro x e g' e' h' r hq
    have fin : endX (resX P g' e fn.results.toList) g' K → endH (resH P h' e' fn.results.toList) h' fun v h' => ∃ x g', v = er x ∧ S g' h' ∧ Ext g h g' h' ∧ Ok h' g' x ∧ K x g' := by
      intro hq
      unfold endX at hq
      split at hq
      · rename_i l hl
        obtain ⟨r1, r2⟩ := res_sound2 r hl
        split at hq
        · rename_i y hy
          obtain ⟨o1, o2⟩ := out_sound2 r2 hy
          simp only [endH, r1, o1]
          exact ⟨y, g', rfl, r.s, r.x, o2, hq⟩
        · cases hq
      · cases hq
    cases x with
    | normal => exact fin hq
    | ret => exact fin hq
    | exit j => exact hq
  · simp only [rootX, List.getD_eq_getElem?_getD]
    cases hx : xs[t]? with
    | none => exact .raw
    | some x => exact o x (List.mem_of_getElem? hx)
end Go.Bi
