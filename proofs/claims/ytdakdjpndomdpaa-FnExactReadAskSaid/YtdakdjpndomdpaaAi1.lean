/- The abstract machine, part 1: abstract states (slots as a function, a heap of numbered rows), what one operation does to them, and the relation to the model's worlds. Nothing about the program stands here. -/
import Derived.Orders
import Derived.LoopN
import Derived.KernelRfl
import Derived.Laws.World
set_option linter.unusedVariables false
namespace Go.Ai

abbrev Env := Nat → Value
def Env.put (e : Env) (d : Nat) (v : Value) : Env := fun t => if t = d then v else e t
def Env.putO (e : Env) : Option Nat → Value → Env
  | some d, v => e.put d v
  | none, _ => e
def Env.op (e : Env) : Operand → Value
  | .tmp t => e t
  | .const v => v
  | .global g => .pointer (some ⟨g, 0, none⟩)
  | .func f => .func (.func f) #[] #[]

/-- A row: may it be written; how many cells an element has; its cells. -/
structure Blk where
  w : Bool
  sz : Nat
  cs : List Value
structure Heap where
  n : Nat
  get : Nat → Option Blk
def Heap.push (h : Heap) (k : Blk) : Heap := ⟨h.n + 1, fun b => if b = h.n then some k else h.get b⟩
def Heap.set (h : Heap) (b : Nat) (k : Blk) : Heap := ⟨h.n, fun b' => if b' = b then some k else h.get b'⟩
def Heap.kill (h : Heap) (b : Nat) : Heap := ⟨h.n, fun b' => if b' = b then none else h.get b'⟩

structure St where
  e : Env
  h : Heap

inductive Ex where
  | normal
  | ret
  | exit (id : Nat)
def Ex.of : Ex → Exit
  | .normal => .normal
  | .ret => .ret
  | .exit id => .exit id

/-! ### The relation between abstract and concrete values -/

inductive All2 (r : Value → Value → Prop) : List Value → List Value → Prop
  | nil : All2 r [] []
  | cons {x y : Value} {l m : List Value} : r x y → All2 r l m → All2 r (x :: l) (y :: m)

/-- Which concrete row an abstract one is; of a concrete row that may be written: its cells, and how many an element has. -/
structure Ren where
  m : Nat → Option Nat
  s : Nat → Option (Nat × Nat)

/-- One cell. -/
def RS (ι : Ren) : Value → Value → Prop
  | .pointer (some a), v => ∃ c, ι.m a.block = some c ∧ a.spot = none ∧ v = .pointer (some ⟨c, a.off, none⟩)
  | .pointer none, v => v = .pointer none
  | .slice (some a) l _, v => ∃ c k off, ι.m a.block = some c ∧ a.spot = none ∧ l ≤ k ∧ (0 < l ∨ a.off = 0 → off = a.off) ∧ (∀ N z, ι.s c = some (N, z) → off + k * z ≤ N) ∧ v = .slice (some ⟨c, off, none⟩) l k
  | .slice none l k, v => l = 0 ∧ k = 0 ∧ v = .slice none 0 0
  | .int k n, v => v = .int k n
  | .bool b, v => v = .bool b
  | .string s, v => v = .string s
  | .nilFunc, v => v = .nilFunc
  | .nilIface, v => v = .nilIface
  | .func fn f cs, v => f = #[] ∧ ∃ cs', v = .func fn #[] cs' ∧ All2 (fun x y => ∃ a c, x = .pointer (some a) ∧ ι.m a.block = some c ∧ a.spot = none ∧ y = .pointer (some ⟨c, a.off, none⟩)) cs.toList cs'.toList
  | .chan _, _ => True
  | _, _ => False

/-- A cell or a struct. -/
def RG (ι : Ren) : Value → Value → Prop
  | .agg cs, v => ∃ cs', v = .agg cs' ∧ All2 (RS ι) cs.toList cs'.toList
  | x, v => RS ι x v

/-- Any value of a slot. -/
def R (ι : Ren) : Value → Value → Prop
  | .tuple vs, v => ∃ vs', v = .tuple vs' ∧ All2 (RG ι) vs.toList vs'.toList
  | x, v => RG ι x v

def Ren.le (ι ι' : Ren) : Prop := ∀ b c, ι.m b = some c → ι'.m b = some c ∧ ι'.s c = ι.s c
theorem Ren.le_refl (ι : Ren) : ι.le ι := fun _ _ h => ⟨h, rfl⟩
theorem Ren.le_trans {a b c : Ren} (h : a.le b) (h' : b.le c) : a.le c := fun x y hx => ⟨(h' x y (h x y hx).1).1, (h' x y (h x y hx).1).2.trans (h x y hx).2⟩

theorem All2.imp {r r' : Value → Value → Prop} (h : ∀ x y, r x y → r' x y) : ∀ {l m}, All2 r l m → All2 r' l m
  | _, _, .nil => .nil
  | _, _, .cons a b => .cons (h _ _ a) (All2.imp h b)
theorem All2.length {r : Value → Value → Prop} : ∀ {l m}, All2 r l m → l.length = m.length
  | _, _, .nil => rfl
  | _, _, .cons _ b => by simp [All2.length b]
theorem All2.get {r : Value → Value → Prop} : ∀ {l m : List Value}, All2 r l m → ∀ {i : Nat} {x : Value}, l[i]? = some x → ∃ y, m[i]? = some y ∧ r x y
  | _, _, .nil, _, _, h => by simp at h
  | _, _, .cons a b, 0, _, h => by simp at h; subst h; exact ⟨_, rfl, a⟩
  | _, _, .cons a b, i + 1, _, h => by simp at h; simpa using All2.get b h
theorem All2.of_get {r : Value → Value → Prop} : ∀ {l m : List Value}, l.length = m.length → (∀ (i : Nat) x y, l[i]? = some x → m[i]? = some y → r x y) → All2 r l m
  | [], [], _, _ => .nil
  | x :: l, y :: m, h, g => .cons (g 0 x y rfl rfl) (All2.of_get (by simpa using h) fun i a b ha hb => g (i + 1) a b (by simpa using ha) (by simpa using hb))
theorem All2.append {r : Value → Value → Prop} : ∀ {l m l' m'}, All2 r l m → All2 r l' m' → All2 r (l ++ l') (m ++ m')
  | _, _, _, _, .nil, h => h
  | _, _, _, _, .cons a b, h => .cons a (All2.append b h)
theorem All2.take {r : Value → Value → Prop} : ∀ {l m}, All2 r l m → ∀ k, All2 r (l.take k) (m.take k)
  | _, _, .nil, k => by simp; exact .nil
  | _, _, .cons a b, 0 => by simp; exact .nil
  | _, _, .cons a b, k + 1 => by simp; exact .cons a (All2.take b k)
theorem All2.drop {r : Value → Value → Prop} : ∀ {l m}, All2 r l m → ∀ k, All2 r (l.drop k) (m.drop k)
  | _, _, .nil, k => by simp; exact .nil
  | _, _, .cons a b, 0 => by simp; exact .cons a b
  | _, _, .cons a b, k + 1 => by simp; exact All2.drop b k

theorem RS.mono {ι ι' : Ren} (h : ι.le ι') : ∀ {x y}, RS ι x y → RS ι' x y := by
  intro x y hx
  cases x with
  | pointer a =>
    cases a with
    | none => exact hx
    | some a => obtain ⟨c, h1, h2, h3⟩ := hx; exact ⟨c, (h _ _ h1).1, h2, h3⟩
  | slice a l k =>
    cases a with
    | none => exact hx
    | some a => obtain ⟨c, k', off, h1, h2, h3, h4, h5, h6⟩ := hx; exact ⟨c, k', off, (h _ _ h1).1, h2, h3, h4, fun N z hN => h5 N z ((h _ _ h1).2 ▸ hN), h6⟩
  | func fn f cs =>
    obtain ⟨h1, cs', h2, h3⟩ := hx
    exact ⟨h1, cs', h2, h3.imp fun x y ⟨a, c, e1, e2, e3, e4⟩ => ⟨a, c, e1, (h _ _ e2).1, e3, e4⟩⟩
  | _ => exact hx
theorem RG.mono {ι ι' : Ren} (h : ι.le ι') : ∀ {x y}, RG ι x y → RG ι' x y := by
  intro x y hx
  unfold RG at hx ⊢
  split at hx
  · obtain ⟨cs', h1, h2⟩ := hx; exact ⟨cs', h1, h2.imp fun _ _ => RS.mono h⟩
  · exact RS.mono h hx
theorem R.mono {ι ι' : Ren} (h : ι.le ι') : ∀ {x y}, R ι x y → R ι' x y := by
  intro x y hx
  unfold R at hx ⊢
  split at hx
  · obtain ⟨vs', h1, h2⟩ := hx; exact ⟨vs', h1, h2.imp fun _ _ => RG.mono h⟩
  · exact RG.mono h hx

/-! ### Abstract heaps and worlds -/

structure Sim (P : Program) (W0 : World) (ι : Ren) (h : Heap) (w : World) : Prop where
  base : ∀ b, b < W0.heap.size → ι.m b = some b ∧ w.heap[b]? = W0.heap[b]? ∧ ι.s b = none
  size : W0.heap.size ≤ w.heap.size
  dom : ∀ b c, ι.m b = some c → b < h.n ∧ c < w.heap.size
  own : ∀ b c, W0.heap.size ≤ b → ι.m b = some c → W0.heap.size ≤ c
  live : ∀ b k, h.get b = some k → ∃ c, ι.m b = some c
  wr : ∀ b k, h.get b = some k → k.w = true → W0.heap.size ≤ b
  ro : ∀ b k, h.get b = some k → k.w = false → b < W0.heap.size
  nle : W0.heap.size ≤ h.n
  inj : ∀ b b' c k k', h.get b = some k → k.w = true → h.get b' = some k' → ι.m b = some c → ι.m b' = some c → b = b'
  cell : ∀ b k c, h.get b = some k → ι.m b = some c → ∃ cs' ty fr, w.heap[c]? = some (.cells cs' ty fr) ∧ k.cs.length ≤ cs'.size ∧
    (∀ (j : Nat) (x : Value), k.cs[j]? = some x → ∃ y : Value, cs'[j]? = some y ∧ RS ι x y) ∧
    (k.w = true → ι.s c = some (cs'.size, k.sz) ∧ ∀ o, o < cs'.size → ¬ (fr.1 ≤ o ∧ o < fr.2))
  env : w.os = W0.os ∧ w.tape = W0.tape ∧ w.output = W0.output

structure RE (nt : Nat) (ι : Ren) (e : Env) (a : Act) : Prop where
  defers : a.defers = []
  size : a.tmps.size = nt
  slot : ∀ t, R ι (e t) (a.tmps.getD t undef)

theorem RE.mono {nt : Nat} {ι ι' : Ren} {e : Env} {a : Act} (h : ι.le ι') (r : RE nt ι e a) : RE nt ι' e a := ⟨r.defers, r.size, fun t => (r.slot t).mono h⟩

theorem RE.put {nt : Nat} {ι : Ren} {e : Env} {a : Act} {d : Nat} {v v' : Value} (r : RE nt ι e a) (hd : d < nt) (hv : R ι v v') :
    RE nt ι (e.put d v) (a.put (some d) v') := by
  refine ⟨r.defers, by simp [Act.put, r.size], fun t => ?_⟩
  unfold Env.put Act.put
  by_cases h : t = d
  · subst h
    simp [r.size, hd]; exact hv
  · have := r.slot t
    simp only [if_neg h]
    rw [show (a.tmps.setIfInBounds d v').getD t undef = a.tmps.getD t undef by simp [Array.getElem?_setIfInBounds_ne (Ne.symm h)]]
    exact this

theorem RE.putO {nt : Nat} {ι : Ren} {e : Env} {a : Act} {d : Option Nat} {v v' : Value} (r : RE nt ι e a) (hd : ∀ x, d = some x → x < nt) (hv : R ι v v') :
    RE nt ι (e.putO d v) (a.put d v') := by
  cases d with
  | none => exact r
  | some d => exact r.put (hd d rfl) hv

/-- A constant of the code that holds no address. -/
def plainS : Value → Bool
  | .int _ _ | .bool _ | .string _ | .nilFunc | .nilIface | .pointer none => true
  | .slice none 0 0 => true
  | _ => false
def plainG : Value → Bool
  | .agg cs => cs.toList.all plainS
  | v => plainS v
def plainV : Value → Bool
  | .tuple vs => vs.toList.all plainG
  | v => plainG v

theorem plainS_RS {ι : Ren} : ∀ {v}, plainS v = true → RS ι v v := by
  intro v h
  unfold plainS at h
  split at h <;> simp_all [RS]
theorem plain_all {ι : Ren} : ∀ {l : List Value}, l.all plainS = true → All2 (RS ι) l l
  | [], _ => .nil
  | x :: l, h => by simp at h; exact .cons (plainS_RS h.1) (plain_all (by simpa using h.2))
theorem plainG_RG {ι : Ren} : ∀ {v}, plainG v = true → RG ι v v := by
  intro v h
  unfold plainG at h
  unfold RG
  split at h
  · exact ⟨_, rfl, plain_all h⟩
  · split
    · simp_all
    · exact plainS_RS h
theorem plain_all2 {ι : Ren} : ∀ {l : List Value}, l.all plainG = true → All2 (RG ι) l l
  | [], _ => .nil
  | x :: l, h => by
    rw [List.all_cons, Bool.and_eq_true] at h
    exact .cons (plainG_RG h.1) (plain_all2 h.2)
theorem plainV_R {ι : Ren} : ∀ {v}, plainV v = true → R ι v v := by
  intro v h
  unfold plainV at h
  unfold R
  split at h
  · exact ⟨_, rfl, plain_all2 h⟩
  · split
    · simp_all
    · exact plainG_RG h

def okOpd : Operand → Bool
  | .tmp _ | .func _ => true
  | .const v => plainV v
  | .global _ => false

theorem RE.op {nt : Nat} {ι : Ren} {e : Env} {a : Act} (r : RE nt ι e a) {x : Operand} (h : okOpd x = true) : R ι (e.op x) (a.eval x) := by
  cases x with
  | tmp t => exact r.slot t
  | const v => exact plainV_R h
  | global g => simp [okOpd] at h
  | func f => exact ⟨rfl, #[], rfl, .nil⟩

end Go.Ai
