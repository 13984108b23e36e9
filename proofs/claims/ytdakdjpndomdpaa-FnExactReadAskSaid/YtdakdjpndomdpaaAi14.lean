/- The abstract machine, part 14: regions that draw their order: a plan names one order; what may come later than planned is looked at again behind each operation that it need not come ahead of. Nothing about the program stands here. -/
import Derived.Test.YtdakdjpndomdpaaAi11
set_option linter.unusedVariables false
set_option linter.unusedSimpArgs false
namespace Go.Ai
variable {P : Program} {W0 : World}

/-! ### What hangs on what -/
def bef (l : List Oper) (i : Nat) : List Nat := match l[i]? with
  | some o => (o.after.toList.filter (Region.binds .any)).map (·.on)
  | none => []
def tmpsOf : List Operand → List Nat
  | [] => []
  | .tmp t :: r => t :: tmpsOf r
  | _ :: r => tmpsOf r
def guardSlot (l : List Oper) : Option (Nat × Bool) → List Nat
  | none => []
  | some (j, _) => match dstAt l j with | some d => [d] | none => []
def looksO (l : List Oper) (o : Oper) : List Nat := tmpsOf o.op.operands.toList ++ guardSlot l o.guard
def looks (l : List Oper) (i : Nat) : List Nat := match l[i]? with | some o => looksO l o | none => []

theorem tmpsOf_mem {t : Nat} : ∀ {l : List Operand}, Operand.tmp t ∈ l → t ∈ tmpsOf l := by
  intro l
  induction l with
  | nil => intro h; cases h
  | cons x r ih =>
    intro h
    rcases List.mem_cons.1 h with h2 | h2
    · subst h2; simp [tmpsOf]
    · have := ih h2
      cases x <;> simp [tmpsOf, this]

theorem op_congr {e e' : Env} {l : List Operand} (h : ∀ t ∈ tmpsOf l, e t = e' t) {x : Operand} (hx : x ∈ l) : e.op x = e'.op x := by
  cases x with
  | tmp t => exact h t (tmpsOf_mem hx)
  | _ => rfl
theorem guard_congr {e e' : Env} {ops : List Oper} {g : Option (Nat × Bool)} (h : ∀ t ∈ guardSlot ops g, e t = e' t) : guardOf ops e g = guardOf ops e' g := by
  cases g with
  | none => rfl
  | some q =>
    obtain ⟨j, w⟩ := q
    simp only [guardOf, guardSlot] at h ⊢
    cases hd : dstAt ops j with
    | none => rfl
    | some d => rw [hd] at h; simp only; rw [h d (by simp)]

theorem fillL_congr {place : Nat → Option (Nat × Nat)} {e e' : Env} : ∀ {l : List (Nat × Operand)} {cs : List Value}, (∀ p ∈ l, e.op p.2 = e'.op p.2) → fillL place e l cs = fillL place e' l cs
  | [], _, _ => rfl
  | (i, x) :: r, cs, h => by
    simp only [fillL]
    rw [show e.op x = e'.op x from h (i, x) (by simp)]
    split
    · split
      · split
        · exact fillL_congr fun p hp => h p (by simp [hp])
        · rfl
      · rfl
    · rfl
theorem map_op_congr {e e' : Env} {xs : List Operand} (h : ∀ x ∈ xs, e.op x = e'.op x) : xs.map e.op = xs.map e'.op := List.map_congr_left h
theorem opt_op_congr {e e' : Env} {o : Option Operand} (h : ∀ x, o = some x → e.op x = e'.op x) : o.map e.op = o.map e'.op := by
  cases o with
  | none => rfl
  | some x => simp [h x rfl]

theorem opv_congr {e e' : Env} {h : Heap} (o : Op) (hx : ∀ x ∈ o.operands.toList, e.op x = e'.op x) : opv P e h o = opv P e' h o := by
  cases o <;> (try rfl) <;> simp only [Op.operands] at hx
  case move x => simp only [opv]; rw [hx x (by simp)]
  case assign x => simp only [opv]; rw [hx x (by simp)]
  case pick c a b => simp only [opv]; rw [hx c (by simp), hx a (by simp), hx b (by simp)]
  case box t x => simp only [opv]; rw [hx x (by simp)]
  case build t ps => simp only [opv]; cases zr? P t with
    | none => rfl
    | some z => simp only; rw [fillL_congr fun p hp => hx p.2 (by simp; exact ⟨p.1, by simpa using hp⟩)]
  case buildSlice t n ps =>
    simp only [opv]
    cases elt? P t with
    | none => rfl
    | some q =>
      obtain ⟨u, z, y⟩ := q
      simp only
      cases zr? P u with
      | none => rfl
      | some zs => simp only; rw [fillL_congr fun p hp => hx p.2 (by simp; exact ⟨p.1, by simpa using hp⟩)]
  case load t x => simp only [opv]; rw [hx x (by simp)]
  case store t x y => simp only [opv]; rw [hx x (by simp), hx y (by simp)]
  case nilCheck x => simp only [opv]; rw [hx x (by simp)]
  case binOp op t x y u => simp only [opv]; rw [hx x (by simp), hx y (by simp)]
  case unOp op t x => simp only [opv]; rw [hx x (by simp)]
  case convert s d x => simp only [opv]; rw [hx x (by simp)]
  case makeFunc fn first caps =>
    cases fn <;> (try rfl)
    simp only [opv]
    have h1 : (caps.toList.all fun x => ptrV (e.op x)) = (caps.toList.all fun x => ptrV (e'.op x)) := by
      rw [Bool.eq_iff_iff, List.all_eq_true, List.all_eq_true]
      exact ⟨fun hh x hxx => by rw [← hx x (by simp; right; simpa using hxx)]; exact hh x hxx, fun hh x hxx => by rw [hx x (by simp; right; simpa using hxx)]; exact hh x hxx⟩
    rw [h1, Array.map_congr_left (xs := caps) fun x hxx => hx x (by simp; right; simpa using hxx)]
  case makeSlice t x y => simp only [opv]; rw [hx x (by simp), hx y (by simp)]
  case slice t x lo hi mx =>
    simp only [opv]
    rw [hx x (by simp), opt_op_congr (o := lo) fun y hy => hx y (by simp [hy]), opt_op_congr (o := hi) fun y hy => hx y (by simp [hy]), opt_op_congr (o := mx) fun y hy => hx y (by simp [hy])]
  case fieldAddr s x f => simp only [opv]; rw [hx x (by simp)]
  case field s x f => simp only [opv]; rw [hx x (by simp)]
  case indexAddr t x ix => simp only [opv]; rw [hx x (by simp), hx ix (by simp)]
  case index t x ix => simp only [opv]; rw [hx x (by simp), hx ix (by simp)]
  case extract x i => simp only [opv]; rw [hx x (by simp)]
  case call c =>
    obtain ⟨callee, xs, ts⟩ := c
    cases callee <;> (try rfl)
    simp only [opv]
    rw [map_op_congr fun x hxx => hx x (by simp [Call.operands]; simpa using hxx)]

theorem callOf_congr {e e' : Env} (o : Op) (hx : ∀ x ∈ o.operands.toList, e.op x = e'.op x) : callOf e o = callOf e' o := by
  cases o <;> (try rfl)
  case call c =>
    obtain ⟨callee, xs, ts⟩ := c
    cases callee <;> (try rfl)
    rename_i f
    simp only [callOf]
    rw [hx f (by simp [Op.operands, Call.operands]), map_op_congr fun x hxx => hx x (by simp [Op.operands, Call.operands]; right; simpa using hxx)]
theorem opO_congr {e e' : Env} {h : Heap} {K : Value → Heap → Prop} (o : Op) (hx : ∀ x ∈ o.operands.toList, e.op x = e'.op x) : opO P W0 e h o K = opO P W0 e' h o K := by
  unfold opO; rw [callOf_congr o hx, opv_congr o hx]

/-! ### Quiet operations -/
def quietO (P : Program) : Op → Bool
  | .move _ | .assign _ | .pick _ _ _ | .load _ _ | .nilCheck _ | .binOp .. | .unOp .. | .fieldAddr .. | .field .. | .indexAddr .. | .index .. | .extract .. | .slice .. | .build .. | .makeFunc .. => true
  | .convert s d _ => match cls? P s, cls? P d with | some .str, some .sl => false | _, _ => true
  | .call ⟨.builtin .len, _, _⟩ | .call ⟨.builtin .cap, _, _⟩ | .call ⟨.builtin .max, _, _⟩ | .call ⟨.builtin .min, _, _⟩ => true
  | _ => false
/-- Those that do not look at rows. -/
def pureO (P : Program) : Op → Bool
  | .load _ _ | .slice .. => false
  | .convert s d _ => match cls? P s, cls? P d with | some .sl, _ => false | _, _ => true
  | _ => true

theorem quiet_call {e : Env} {o : Op} (hq : quietO P o = true) : callOf e o = none := by
  cases o <;> (try rfl) <;> (try (simp [quietO] at hq; done))
  case call c => obtain ⟨callee, xs, ts⟩ := c; cases callee <;> first | rfl | (simp [quietO] at hq; done)
theorem map_heap {o : Option Value} {h h' : Heap} {v : Value} (hh : o.map (·, h) = some (v, h')) : h' = h ∧ ∀ h2 : Heap, o.map (·, h2) = some (v, h2) := by
  cases o with
  | none => cases hh
  | some x => simp at hh; obtain ⟨rfl, rfl⟩ := hh; exact ⟨rfl, fun _ => rfl⟩
theorem conv_quiet {s d : TypeId} {x : Value} {h h' : Heap} {v : Value} (hq : quietO P (.convert s d (.const x)) = true) (hv : convV P h s d x = some (v, h')) :
    h' = h ∧ (pureO P (.convert s d (.const x)) = true → ∀ h2, convV P h2 s d x = some (v, h2)) := by
  simp only [quietO] at hq
  simp only [pureO]
  unfold convV at hv ⊢
  cases hs : cls? P s <;> cases hd : cls? P d <;> simp only [hs, hd] at hv hq ⊢ <;> (try (cases hv; done))
  rename_i c c'
  cases c <;> cases c' <;> cases x <;> simp only at hv hq ⊢ <;> (try (cases hv; done)) <;> (try (simp at hq; done)) <;> (try (simp at hv; obtain ⟨rfl, rfl⟩ := hv; simp; done))
  all_goals
    split at hv
    · split at hv
      · cases hv; simp
      · cases hv
    · cases hv
theorem builtin_quiet {b : Builtin} {ts : List TypeId} {xs : List Value} {h h' : Heap} {v : Value} (hb : b = .len ∨ b = .cap ∨ b = .max ∨ b = .min) (hv : builtinV P h b ts xs = some (v, h')) :
    h' = h ∧ ∀ h2, builtinV P h2 b ts xs = some (v, h2) := by
  rcases hb with rfl | rfl | rfl | rfl <;> unfold builtinV at hv ⊢
  · split at hv
    all_goals first
      | (exfalso; simp_all; done)
      | (split at hv
         · rename_i hc; cases hv; exact ⟨rfl, fun h2 => by simp only [hc]⟩
         · cases hv)
  · split at hv
    all_goals first
      | (exfalso; simp_all; done)
      | (split at hv
         · rename_i hc; cases hv; exact ⟨rfl, fun h2 => by simp only [hc]⟩
         · cases hv)
  · exact map_heap hv
  · exact map_heap hv

theorem quiet_spec {e : Env} {o : Op} {h h' : Heap} {v : Value} (hq : quietO P o = true) (hv : opv P e h o = some (v, h')) :
    h' = h ∧ (pureO P o = true → ∀ h2, opv P e h2 o = some (v, h2)) := by
  cases o <;> (try (simp [quietO] at hq; done)) <;> simp only [opv] at hv ⊢
  case move x => cases hv; exact ⟨rfl, fun _ _ => rfl⟩
  case assign x => cases hv; exact ⟨rfl, fun _ _ => rfl⟩
  case pick c a b => split at hv <;> simp_all
  case build t ps =>
    split at hv
    · split at hv
      · rename_i hb; simp only [if_pos hb]
        generalize fillL (fun i => (fld? P t i).map fun p => (p.1, p.2.1)) e ps.toList _ = r at hv
        cases r with
        | none => cases hv
        | some l => simp at hv; obtain ⟨rfl, rfl⟩ := hv; exact ⟨rfl, fun _ _ => rfl⟩
      · cases hv
    · cases hv
  case load t x => exact ⟨(map_heap hv).1, fun hp => by simp [pureO] at hp⟩
  case nilCheck x => split at hv <;> simp_all
  case binOp op t x y u => exact ⟨(map_heap hv).1, fun _ => (map_heap hv).2⟩
  case unOp op t x => exact ⟨(map_heap hv).1, fun _ => (map_heap hv).2⟩
  case convert s d x => exact conv_quiet (x := e.op x) hq hv
  case makeFunc fn first caps =>
    cases fn <;> simp only [opv] at hv ⊢ <;> (try (cases hv; done))
    split at hv <;> simp_all
  case slice t x lo hi mx => exact ⟨(map_heap hv).1, fun hp => by simp [pureO] at hp⟩
  case fieldAddr s x f => exact ⟨(map_heap hv).1, fun _ => (map_heap hv).2⟩
  case field s x f => exact ⟨(map_heap hv).1, fun _ => (map_heap hv).2⟩
  case indexAddr t x ix => exact ⟨(map_heap hv).1, fun _ => (map_heap hv).2⟩
  case index t x ix => exact ⟨(map_heap hv).1, fun _ => (map_heap hv).2⟩
  case extract x i => exact ⟨(map_heap hv).1, fun _ => (map_heap hv).2⟩
  case call c =>
    obtain ⟨callee, xs, ts⟩ := c
    cases callee <;> (try (simp [quietO] at hq; done))
    rename_i b
    have hb : b = .len ∨ b = .cap ∨ b = .max ∨ b = .min := by cases b <;> simp_all [quietO]
    obtain ⟨h1, h2⟩ := builtin_quiet hb hv
    exact ⟨h1, fun _ => h2⟩

end Go.Ai
